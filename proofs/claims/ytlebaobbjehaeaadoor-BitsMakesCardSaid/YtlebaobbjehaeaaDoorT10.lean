/-
  TrailingZeros64 and List: what they return.
-/
import Derived.Test.YtlebaobbjehaeaaDoorT9
namespace Go.Proofs.YtlebaobbjehaeaaDoor
set_option linter.unusedSimpArgs false
set_option linter.unusedVariables false
open Go Go.Abs

/-! The lowest bit of a word. -/
theorem first_bit (x : W) (h : x ≠ 0) : ∃ k, k < 64 ∧ x.getLsbD k = true ∧ ∀ i, i < k → x.getLsbD i = false := by
  rcases first_bad (fun i => !x.getLsbD i) 64 with h1 | ⟨k, hk, h1, h2⟩
  · exfalso
    apply h
    apply BitVec.eq_of_getLsbD_eq
    intro i hi
    have := h1 i hi
    simp only [Bool.not_eq_true'] at this
    rw [this]; simp
  · exact ⟨k, hk, by simpa using h2, fun i hi => by simpa using h1 i hi⟩

theorem low_and_neg {x : W} {k : Nat} (hk : k < 64) (h1 : x.getLsbD k = true) (h2 : ∀ i, i < k → x.getLsbD i = false) : x &&& -x = BitVec.twoPow 64 k := by
  apply BitVec.eq_of_getLsbD_eq
  intro i hi
  rw [BitVec.getLsbD_and, BitVec.getLsbD_neg, BitVec.getLsbD_twoPow]
  rcases Nat.lt_trichotomy i k with h | h | h
  · rw [h2 i h]; simp; omega
  · subst h
    have : ¬ ∃ j, j < i ∧ x.getLsbD j = true := fun ⟨j, hj, e⟩ => by rw [h2 j hj] at e; cases e
    simp [h1, hi, this]
  · have : ∃ j, j < i ∧ x.getLsbD j = true := ⟨k, h, h1⟩
    have hne : ¬ k = i := by omega
    simp [hi, this, hne]

theorem and_pred {x : W} (i : Nat) (hi : i < 64) : (x &&& (x - 1#64)).getLsbD i = (x.getLsbD i && decide (∃ j, j < i ∧ x.getLsbD j = true)) := by
  have e : x - 1#64 = ~~~ (-x) := by
    rw [BitVec.not_neg]
  rw [e, BitVec.getLsbD_and, BitVec.getLsbD_not, BitVec.getLsbD_neg]
  simp only [hi, decide_true, Bool.true_and]
  cases x.getLsbD i <;> simp

theorem tab_low : ∀ k : Fin 64, deBruijn[((BitVec.twoPow 64 k.val * 285870213051353865#64) >>> 58).toNat]? = some (k.val : Int) := by decide +kernel

section
variable {Φ : Oracle} {H : Heap} {nx : Nat}
@[simp] theorem uv_neg (x : W) : evalK Φ H nx (.un .neg) [.t (uv x)] = some (.t (uv (-x)), H, nx) := by
  have : IntKind.u64.wrap (-(x.toNat : Int)) = ((-x : W).toNat : Int) := by
    unfold IntKind.wrap IntKind.bits IntKind.signed
    simp only [Bool.false_and, Bool.false_eq_true, if_false, BitVec.toNat_neg]
    have := x.isLt
    have e1 : (2 : Int) ^ 64 = 18446744073709551616 := by decide
    have e2 : (2 : Nat) ^ 64 = 18446744073709551616 := by decide
    rw [e1, e2]
    omega
  simp only [uv, evalK_un, unV, Int.zero_sub, this, Option.map_some]
@[simp] theorem uv_mulc (isB : Bool) (nk : Option NK) (x : W) (n : Nat) (hn : n < 18446744073709551616) : evalK Φ H nx (.bin isB .mul nk) [.t (uv x), .t (.v (.int .u64 (n : Int)))] = some (.t (uv (x * BitVec.ofNat 64 n)), H, nx) := by
  have : IntKind.u64.wrap ((x.toNat : Int) * (n : Int)) = ((x * BitVec.ofNat 64 n : W).toNat : Int) := by
    unfold IntKind.wrap IntKind.bits IntKind.signed
    simp only [Bool.false_and, Bool.false_eq_true, if_false, BitVec.toNat_mul, BitVec.toNat_ofNat]
    have e2 : (2 : Nat) ^ 64 = 18446744073709551616 := by decide
    rw [e2, Nat.mod_eq_of_lt hn]
    simp
  simp only [uv, evalK_mul, this]
@[simp] theorem uv_subc (isB : Bool) (nk : Option NK) (x : W) : evalK Φ H nx (.bin isB .sub nk) [.t (uv x), .t (.v (.int .u64 1))] = some (.t (uv (x - 1#64)), H, nx) := by
  have : IntKind.u64.wrap ((x.toNat : Int) - 1) = ((x - 1#64 : W).toNat : Int) := by
    unfold IntKind.wrap IntKind.bits IntKind.signed
    simp only [Bool.false_and, Bool.false_eq_true, if_false, BitVec.toNat_sub, BitVec.toNat_ofNat]
    have := x.isLt
    have e1 : (2 : Int) ^ 64 = 18446744073709551616 := by decide
    have e2 : (2 : Nat) ^ 64 = 18446744073709551616 := by decide
    rw [e1, e2]
    omega
  simp only [uv, evalK_sub, this]
end

theorem M31_eq : M31 = (.seq (.ops [⟨(some 2), .mv, [(.k (.t (.v (.int .i64 0))))], none⟩]) (.seq (.seq (.ops [⟨(some 3), .mv, [(.tmp 0)], none⟩, ⟨(some 4), (.bin false .eql none), [(.tmp 3), (.k (.t (.v (.int .u64 0))))], none⟩]) (.cond (.tmp 4) (.seq (.ops [⟨(some 2), .mv, [(.k (.t (.v (.int .i64 64))))], none⟩]) .ret) .skip)) (.seq (.ops [⟨(some 5), .mv, [(.tmp 0)], none⟩, ⟨(some 6), .mv, [(.tmp 0)], none⟩, ⟨(some 7), (.un .neg), [(.tmp 6)], none⟩, ⟨(some 8), (.bin false .and none), [(.tmp 5), (.tmp 7)], none⟩, ⟨(some 9), (.bin false .mul none), [(.tmp 8), (.k (.t (.v (.int .u64 285870213051353865))))], none⟩, ⟨(some 10), (.bin false .shr none), [(.tmp 9), (.k (.t (.v (.int .u64 58))))], none⟩, ⟨(some 11), (.aaddr 64 1), [(.k (.t (.pt (tabU8 deBruijn)))), (.tmp 10)], none⟩, ⟨(some 12), (.load false 1), [(.tmp 11)], none⟩, ⟨(some 13), (.conv (some .i64)), [(.tmp 12)], none⟩, ⟨(some 2), .mv, [(.tmp 13)], none⟩]) .ret))) := rfl

theorem tz_call {x : W} {k : Nat} (hx : x ≠ 0) (hk : k < 64) (h1 : x.getLsbD k = true) (h2 : ∀ i, i < k → x.getLsbD i = false) : CallT Tryd.prog G 31 [uv x] (· = iv (k : Int)) := by
  refine k31.runs ctx0 rfl ?_
  rw [M31_eq]
  have e0 : eqc x 0 = false := by
    unfold eqc
    rw [beq_eq_false_iff_ne]
    exact fun h => hx (BitVec.eq_of_toNat_eq (by simpa using h))
  have e1 := low_and_neg hk h1 h2
  have e2 := tab_low ⟨k, hk⟩
  simp only at e2
  obtain ⟨z, hz⟩ : ∃ z : W, (BitVec.twoPow 64 k * 285870213051353865#64) >>> 58 = z := ⟨_, rfl⟩
  rw [hz] at e2
  have s1 : ∀ y : W, evalK (orc []) [] 0 (.bin false .shr none) [.t (uv y), .t (.v (.int .u64 58))] = some (.t (uv (y >>> 58)), [], 0) := fun y => uv_shr false none y .u64 58 (by omega)
  have m1 : ∀ y : W, evalK (orc []) [] 0 (.bin false .mul none) [.t (uv y), .t (.v (.int .u64 285870213051353865))] = some (.t (uv (y * 285870213051353865#64)), [], 0) := fun y => uv_mulc false none y 285870213051353865 (by omega)
  have hlt : z.toNat < 64 := by
    have := (List.getElem?_eq_some_iff.1 e2).1
    simpa [deBruijn] using this
  have a1 : aaddrM 64 1 (.t (.pt (tabU8 deBruijn))) (.t (uv z)) = some (.t (.pt ((tabU8 deBruijn).drop z.toNat))) := by
    have h0 : (z.toNat : Int) < 64 := by omega
    simp [aaddrM, uv, h0]
  have l1 : loadM false 1 [] (.t (.pt ((tabU8 deBruijn).drop z.toNat))) = some (.t (.v (.int .u8 (k : Int)))) := by
    simp [loadM, tabU8, e2]
  have c1 : IntKind.i64.wrap (k : Int) = (k : Int) := wrap_i64 (by omega) (by omega)
  generalize tabU8 deBruijn = tab at *
  simp -implicitDefEqProofs [e0, e1, s1, m1, hz, a1, l1, c1, iv]

/-! What List does to a word. -/
def hib (x : W) (k : Nat) : W := x &&& (BitVec.allOnes 64 <<< k)
theorem hib_bit (x : W) (k i : Nat) (hi : i < 64) : (hib x k).getLsbD i = (x.getLsbD i && decide (k ≤ i)) := by
  unfold hib
  rw [BitVec.getLsbD_and, BitVec.getLsbD_shiftLeft, BitVec.getLsbD_allOnes]
  by_cases h : k ≤ i
  · have h' : ¬ i < k := by omega
    have h'' : i - k < 64 := by omega
    simp [hi, h, h', h'']
  · have h' : i < k := by omega
    simp [h, h']
theorem hib_zero (x : W) : hib x 0 = x := by
  apply BitVec.eq_of_getLsbD_eq
  intro i hi
  rw [hib_bit x 0 i hi]; simp
theorem hib_next {x : W} {k j : Nat} (hj : j < 64) (h1 : (hib x k).getLsbD j = true) (h2 : ∀ i, i < j → (hib x k).getLsbD i = false) : hib x k &&& (hib x k - 1#64) = hib x (j + 1) := by
  have hkj : k ≤ j := by
    rw [hib_bit x k j hj] at h1
    simp at h1
    exact h1.2
  apply BitVec.eq_of_getLsbD_eq
  intro i hi
  rw [and_pred i hi, hib_bit x k i hi, hib_bit x (j + 1) i hi]
  by_cases h : j + 1 ≤ i
  · have e : ∃ a, a < i ∧ (hib x k).getLsbD a = true := ⟨j, by omega, h1⟩
    simp [h, e, show k ≤ i by omega]
  · have e : ¬ ∃ a, a < i ∧ (hib x k).getLsbD a = true := fun ⟨a, ha, e⟩ => by rw [h2 a (by omega)] at e; cases e
    simp [h, e]

theorem els_skip (l : List W) (i k : Nat) : ∀ d, k + d ≤ 64 → (∀ j, k ≤ j → j < k + d → (wd l i).getLsbD j = false) → els l (64 * i + (k + d)) = els l (64 * i + k)
  | 0, _, _ => rfl
  | d + 1, h, hb => by
    have ih := els_skip l i k d (by omega) fun j h1 h2 => hb j h1 (by omega)
    have hh : hasL l (64 * i + (k + d)) = false := by
      unfold hasL
      rw [show (64 * i + (k + d)) / 64 = i by omega, show (64 * i + (k + d)) % 64 = k + d by omega]
      exact hb (k + d) (by omega) (by omega)
    rw [show 64 * i + (k + (d + 1)) = 64 * i + (k + d) + 1 by omega, els_succ, hh, ih]
    simp

theorem els_next {l : List W} {i k j : Nat} (hj : j < 64) (h1 : (hib (wd l i) k).getLsbD j = true) (h2 : ∀ a, a < j → (hib (wd l i) k).getLsbD a = false) : els l (64 * i + (j + 1)) = els l (64 * i + k) ++ [((64 * i + j : Nat) : Int)] := by
  rw [hib_bit _ k j hj] at h1
  simp only [Bool.and_eq_true, decide_eq_true_eq] at h1
  have hs := els_skip l i k (j - k) (by omega) fun a ha hb => by
    have := h2 a (by omega)
    rw [hib_bit _ k a (by omega)] at this
    simpa [ha] using this
  rw [show k + (j - k) = j by omega] at hs
  have hh : hasL l (64 * i + j) = true := by
    unfold hasL
    rw [show (64 * i + j) / 64 = i by omega, show (64 * i + j) % 64 = j by omega]
    exact h1.1
  rw [← Nat.add_assoc, els_succ, hh, hs]
  rfl

theorem els_done {l : List W} {i k : Nat} (hk : k ≤ 64) (h : hib (wd l i) k = 0) : els l (64 * (i + 1)) = els l (64 * i + k) := by
  have hs := els_skip l i k (64 - k) (by omega) fun j hj hb => by
    have : (hib (wd l i) k).getLsbD j = false := by rw [h]; simp
    rw [hib_bit _ k j (by omega)] at this
    simpa [hj] using this
  rw [← hs]
  congr 1
  omega

def tzT (x : W) : Option T := if x = 0 then none else ((List.range 64).find? fun i => x.getLsbD i).map fun k => iv (k : Int)
def gTz : List T → Option T
  | [t] => (decU t).bind tzT
  | _ => none
theorem tzT_eq {x : W} {k : Nat} (hx : x ≠ 0) (hk : k < 64) (h1 : x.getLsbD k = true) (h2 : ∀ i, i < k → x.getLsbD i = false) : tzT x = some (iv (k : Int)) := by
  unfold tzT
  rw [if_neg hx]
  have : (List.range 64).find? (fun i => x.getLsbD i) = some k := by
    rw [List.find?_range_eq_some]
    exact ⟨h1, by simpa using hk, fun j hj => by simp [h2 j hj]⟩
  rw [this]; rfl
theorem tz_ok : GOK Tryd.prog G 31 gTz := by
  intro args r h
  unfold gTz at h
  split at h
  · obtain ⟨x, hx, h⟩ := Option.bind_eq_some_iff.1 h
    rw [decU_some hx]
    by_cases h0 : x = 0
    · simp [tzT, h0] at h
    · obtain ⟨k, hk, h1, h2⟩ := first_bit x h0
      rw [tzT_eq h0 hk h1 h2] at h
      injection h with h; subst h
      exact tz_call h0 hk h1 h2
  · cases h
theorem gTz_uv {x : W} {k : Nat} (hx : x ≠ 0) (hk : k < 64) (h1 : x.getLsbD k = true) (h2 : ∀ i, i < k → x.getLsbD i = false) : gTz [uv x] = some (iv (k : Int)) := by
  show (decU (uv x)).bind tzT = _
  rw [decU_uv]
  exact tzT_eq hx hk h1 h2
def tb9 : Tbl := [(31, gTz)]
theorem ctx9 : Ctx Tryd.prog G (orc tb9) := (TblOK.cons tz_ok TblOK.nil).ctx mixed

def S13 (t : T) (l : List W) (i : Nat) : AState := ⟨[(8, .t (iv i)), (7, .t (iv l.length)), (6, .t t), (3, rowL (els l (64 * i)))], heapL 3 iv (els l (64 * i)), 2 * (els l (64 * i)).length, 29⟩
def S13b (t : T) (l : List W) (i k : Nat) : AState := ⟨[(8, .t (iv i)), (7, .t (iv l.length)), (6, .t t), (5, .t (uv (hib (wd l i) k))), (4, .t (iv i)), (3, rowL (els l (64 * i + k)))], heapL 3 iv (els l (64 * i + k)), 2 * (els l (64 * i + k)).length, 29⟩

theorem list_call {t : T} {l : List W} (ht : decB t = some l) (hl : l.length ≤ 1000) : CallT Tryd.prog G 13 [t] (· = treeL iv (els l (64 * l.length))) := by
  refine k13.call rfl ?_
  unfold M13
  refine mc_seq_runs ctx9 ?_
  simp -implicitDefEqProofs
  refine mc_seq_runs ctx9 ?_
  simp -implicitDefEqProofs
  refine mc_cut (fun _ : Unit => S13 t l l.length) (fun _ => True) (fun _ => rfl) ?_ ?_
  · refine mc_seq_runs ctx9 ?_
    simp -implicitDefEqProofs [len_dec ht]
    refine mc_block ?_
    refine mc_for (S13 t l) l.length (fun _ => rfl) ?_ rfl ?_ ?_
    · refine sub_forget rfl (by simp -implicitDefEqProofs [S13, els]) ?_ ?_ <;> simp -implicitDefEqProofs [S13, iv, els, rowL, heapL]
    · intro i hi
      refine mc_seq_runs ctx9 ?_
      have hx : l[i]? = some (wd l i) := by simp [wd, hi]
      have h1 := iaddr_dec ht .i64 i (by omega) (by omega)
      simp only [Int.toNat_natCast] at h1
      simp -implicitDefEqProofs [S13, iv]
      refine mc_seq_runs ctx9 ?_
      simp -implicitDefEqProofs [hi]
      refine mc_cut (fun k => S13b t l i k) (fun k => k ≤ 64 ∧ hib (wd l i) k = 0) (fun _ => rfl) ?_ ?_
      · refine mc_block ?_
        refine mc_seq_runs ctx9 ?_
        simp -implicitDefEqProofs [h1, load_drop _ hx]
        refine mc_block ?_
        refine mc_while (fun k => S13b t l i k) (fun k => 64 - k) (fun k => k ≤ 64) 0 (fun _ => rfl) (by omega) ?_ rfl ?_
        · exact sub_forget rfl (by simp -implicitDefEqProofs [S13b]) (by simp -implicitDefEqProofs [S13b, iv, hib_zero]) (by simp -implicitDefEqProofs [S13b]; exact fun a b h => heapL_look' _ _ _ (a, b) h)
        · intro k hk
          refine mc_runs ctx9 ?_
          by_cases h0 : hib (wd l i) k = 0
          · simp -implicitDefEqProofs [S13b, nec_zero, h0]
            exact Next.mk k ⟨hk, h0⟩ (sub_forget rfl rfl (by simp -implicitDefEqProofs [S13b, h0]) (heapL_look' _ _ _))
          · obtain ⟨j, hj, b1, b2⟩ := first_bit _ h0
            have h0' : (hib (wd l i) k == 0#64) = false := by simpa using h0
            have tz := gTz_uv h0 hj b1 b2
            have mn := hib_next hj b1 b2
            have en := els_next hj b1 b2
            have hlen := els_len l (64 * i + k)
            have kj : k ≤ j := by
              rw [hib_bit _ k j hj] at b1
              simp at b1
              exact b1.2
            have ap := app_L 3 iv (els l (64 * i + k)) ((64 * i + j : Nat) : Int) (by omega)
            rw [← en] at ap
            have w1 : IntKind.i64.wrap (64 * (i : Int)) = ((64 * i : Nat) : Int) := wrap_nat (by omega) (by omega)
            have w2 : IntKind.i64.wrap (((64 * i : Nat) : Int) + (j : Int)) = ((64 * i + j : Nat) : Int) := wrap_nat (by omega) (by omega)
            have fj : fillP (fun i => some (i, 1)) [.t (.v (.int .i64 0))] [(0, .t (.v (.int .i64 ((64 * i + j : Nat) : Int))))] = some [.t (iv ((64 * i + j : Nat) : Int))] := rfl
            generalize ((64 * i + j : Nat) : Int) = z at *
            generalize ((64 * i : Nat) : Int) = z0 at *
            simp -implicitDefEqProofs [S13b, nec_zero, h0', tb9, tz, iv, w1, w2, bsliceM, zeros, fj]
            simp -implicitDefEqProofs [iv] at ap
            simp -implicitDefEqProofs [ap, mn]
            exact Next.mk (j + 1) ⟨by omega, by omega⟩ (sub_forget rfl rfl (by simp -implicitDefEqProofs [S13b, iv]) (heapL_look _ _ _ _))
      · rintro k ⟨hk, h0⟩
        refine mc_runs ctx9 ?_
        have e1 : IntKind.i64.wrap ((i : Int) + 1) = ((i + 1 : Nat) : Int) := wrap_nat (by omega) (by omega)
        have ed := els_done hk h0
        simp -implicitDefEqProofs [S13b, iv, e1]
        exact sub_forget rfl (by rw [ed]) (by simp -implicitDefEqProofs [ed]) (by rw [ed]; exact heapL_look' _ _ _)
    · refine mc_runs ctx9 ?_
      simp -implicitDefEqProofs [S13, iv]
      exact Next.mk () trivial (sub_forget rfl rfl (by simp -implicitDefEqProofs) (heapL_look' _ _ _))
  · rintro _ -
    refine mc_runs ctx9 ?_
    have tt := toT_L 3 iv (els l (64 * l.length))
    simp -implicitDefEqProofs [S13, tt]
end Go.Proofs.YtlebaobbjehaeaaDoor
