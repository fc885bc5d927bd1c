/-
  SameInts, Of and the document's Of: what they return.
-/
import Derived.Test.YtlebaobbjehaeaaDoorT10
namespace Go.Proofs.YtlebaobbjehaeaaDoor
set_option linter.unusedSimpArgs false
set_option linter.unusedVariables false
open Go Go.Abs

/-! Slices of ints as trees. -/
def decN : T → Option Int
  | .v (.int .i64 n) => some n
  | _ => none
def decNs : List T → Option (List Int)
  | [] => some []
  | t :: ts => match decN t, decNs ts with
    | some x, some xs => some (x :: xs)
    | _, _ => none
def decI : T → Option (List Int)
  | .v (.slice none 0 0) => some []
  | .sl n cs => if n = cs.length then decNs cs else none
  | _ => none
theorem decN_some {t : T} {x : Int} (h : decN t = some x) : t = iv x := by
  unfold decN at h
  split at h
  · injection h with h; subst h; rfl
  · cases h
theorem decNs_some : ∀ {ts : List T} {xs : List Int}, decNs ts = some xs → ts = xs.map iv
  | [], xs, h => by simp only [decNs, Option.some.injEq] at h; simp [← h]
  | t :: ts, xs, h => by
    simp only [decNs] at h
    split at h
    · rename_i x xs' hx hxs
      injection h with h; subst h
      simp [decN_some hx, decNs_some hxs]
    · cases h
theorem decNs_map : ∀ (xs : List Int), decNs (xs.map iv) = some xs
  | [] => rfl
  | x :: xs => by
    have : decN (iv x) = some x := rfl
    simp only [List.map_cons, decNs, this, decNs_map xs]
theorem decI_cases {t : T} {l : List Int} (h : decI t = some l) : (t = .v (.slice none 0 0) ∧ l = []) ∨ t = .sl l.length (l.map iv) := by
  unfold decI at h
  split at h
  · injection h with h; exact .inl ⟨rfl, h.symm⟩
  · rename_i n cs
    split at h
    · rename_i hn
      have := decNs_some h
      subst this
      right
      simp at hn
      rw [hn]
    · cases h
  · cases h
theorem decI_sl (l : List Int) : decI (.sl l.length (l.map iv)) = some l := by simp [decI, decNs_map]
theorem decI_tree (l : List Int) : decI (treeL iv l) = some l := by
  cases l with
  | nil => rfl
  | cons x r => exact decI_sl (x :: r)
theorem len_decI {t : T} {l : List Int} (h : decI t = some l) : lenslM (.t t) = some (.t (.v (.int .i64 (l.length : Int)))) := by
  rcases decI_cases h with ⟨rfl, rfl⟩ | rfl <;> rfl
theorem iaddr_decI {t : T} {l : List Int} (h : decI t = some l) (k : IntKind) (i : Nat) (h1 : i < l.length) : iaddrM 1 (.t t) (.t (.v (.int k (i : Int)))) = some (.t (.pt ((l.map iv).drop i))) := by
  rcases decI_cases h with ⟨rfl, rfl⟩ | rfl
  · simp at h1
  · simp only [iaddrM]
    rw [if_pos ⟨by omega, by omega⟩]
    simp
theorem load_dropI {l : List Int} {i : Nat} {x : Int} (H : Heap) (h : l[i]? = some x) : loadM false 1 H (.t (.pt ((l.map iv).drop i))) = some (.t (.v (.int .i64 x))) := by
  simp [loadM, h, iv]

/-! SameInts. -/
def S12 (a b : T) (j : Nat) : AState := ⟨[(5, .t (.v (.int .i64 (j : Int)))), (1, .t b), (0, .t a)], [], 0, 26⟩
theorem sameInts_call {a b : T} {l : List Int} (ha : decI a = some l) (hb : decI b = some l) (hl : l.length ≤ 1000000) : CallT Tryd.prog G 12 [a, b] (· = .v (.bool true)) := by
  refine k12.call rfl ?_
  unfold M12
  refine mc_seq_runs ctx0 ?_
  simp -implicitDefEqProofs
  refine mc_seq_runs ctx0 ?_
  simp -implicitDefEqProofs [len_decI ha, len_decI hb]
  refine mc_cut (fun _ : Unit => S12 a b l.length) (fun _ => True) (fun _ => rfl) ?_ ?_
  · refine mc_seq_runs ctx0 ?_
    simp -implicitDefEqProofs
    refine mc_block ?_
    refine mc_for (S12 a b) l.length (fun _ => rfl) ?_ rfl ?_ ?_
    · refine sub_forget rfl rfl ?_ ?_ <;> simp -implicitDefEqProofs [S12]
    · intro j hj
      refine mc_runs ctx0 ?_
      obtain ⟨x, hx⟩ : ∃ x, l[j]? = some x := ⟨_, List.getElem?_eq_getElem hj⟩
      have e1 : IntKind.i64.wrap ((j : Int) + 1) = ((j + 1 : Nat) : Int) := wrap_nat (by omega) (by omega)
      simp -implicitDefEqProofs [S12, hj, len_decI ha, iaddr_decI ha _ j hj, iaddr_decI hb _ j hj, load_dropI _ hx, e1]
      refine sub_forget rfl rfl ?_ ?_ <;> simp -implicitDefEqProofs
    · refine mc_runs ctx0 ?_
      simp -implicitDefEqProofs [S12, len_decI ha]
      exact Next.mk () trivial (sub_forget rfl rfl (by simp -implicitDefEqProofs) (by simp -implicitDefEqProofs))
  · rintro _ -
    refine mc_runs ctx0 ?_
    simp -implicitDefEqProofs [S12]

/-! Of. -/
def inR (n : Int) : Bool := decide (0 ≤ n) && decide (n ≤ 4095)
def mo (a b : Int) : Int := if a < b then b else a
def most (l : List Int) (j : Nat) : Int := (l.take j).foldl mo (-1)
theorem most_succ {l : List Int} {j : Nat} {x : Int} (h : l[j]? = some x) : most l (j + 1) = mo (most l j) x := by
  unfold most
  rw [List.take_add_one, h]
  simp [List.foldl_append]
theorem most_ge {l : List Int} : ∀ j, (∀ n ∈ l, inR n = true) → -1 ≤ most l j ∧ most l j ≤ 4095
  | 0, _ => by simp [most]
  | j + 1, h => by
    have ih := most_ge j h
    cases hj : l[j]? with
    | none =>
      have : most l (j + 1) = most l j := by unfold most; rw [List.take_add_one, hj]; simp
      rw [this]; exact ih
    | some x =>
      rw [most_succ hj]
      have := h x (List.mem_of_getElem? hj)
      simp only [inR, Bool.and_eq_true, decide_eq_true_eq] at this
      unfold mo
      split <;> omega
theorem foldl_mo_ge (l : List Int) : ∀ a, a ≤ l.foldl mo a ∧ ∀ n ∈ l, n ≤ l.foldl mo a := by
  induction l with
  | nil => intro a; simp
  | cons x l ih =>
    intro a
    have h1 : a ≤ mo a x := by unfold mo; split <;> omega
    have h2 : x ≤ mo a x := by unfold mo; split <;> omega
    obtain ⟨i1, i2⟩ := ih (mo a x)
    rw [List.foldl_cons]
    refine ⟨by omega, fun n hn => ?_⟩
    rcases List.mem_cons.1 hn with rfl | hn
    · omega
    · exact i2 n hn
theorem most_all (l : List Int) : ∀ n ∈ l, n ≤ most l l.length := by
  have := (foldl_mo_ge l (-1)).2
  unfold most
  rwa [List.take_length]

/-- A set with one more bit. -/
def setB (ws : List W) (n : Nat) : List W := ws.set (n / 64) (wd ws (n / 64) ||| BitVec.twoPow 64 (n % 64))
def fill (N : Nat) (l : List Int) (j : Nat) : List W := (l.take j).foldl (fun ws n => setB ws n.toNat) (List.replicate N 0)
theorem fill_succ {N : Nat} {l : List Int} {j : Nat} {x : Int} (h : l[j]? = some x) : fill N l (j + 1) = setB (fill N l j) x.toNat := by
  unfold fill
  rw [List.take_add_one, h]
  simp [List.foldl_append]
theorem length_setB (ws : List W) (n : Nat) : (setB ws n).length = ws.length := by simp [setB]
theorem length_fill (N : Nat) (l : List Int) : ∀ j, (fill N l j).length = N
  | 0 => by simp [fill]
  | j + 1 => by
    have ih := length_fill N l j
    cases hj : l[j]? with
    | none =>
      have : fill N l (j + 1) = fill N l j := by unfold fill; rw [List.take_add_one, hj]; simp
      rw [this]; exact ih
    | some x => rw [fill_succ hj, length_setB, ih]

theorem has_setB (ws : List W) (n i : Nat) (h : n / 64 < ws.length) : hasL (setB ws n) i = (hasL ws i || decide (i = n)) := by
  unfold hasL setB
  have e : wd (ws.set (n / 64) (wd ws (n / 64) ||| BitVec.twoPow 64 (n % 64))) (i / 64) = if n / 64 = i / 64 then wd ws (n / 64) ||| BitVec.twoPow 64 (n % 64) else wd ws (i / 64) := by
    by_cases hi : n / 64 = i / 64
    · rw [if_pos hi, ← hi]; simp [wd, h]
    · rw [if_neg hi]; simp [wd, List.getElem?_set_ne hi]
  rw [e]
  by_cases hi : n / 64 = i / 64
  · rw [if_pos hi, BitVec.getLsbD_or, BitVec.getLsbD_twoPow, hi]
    congr 1
    have h1 : i % 64 < 64 := Nat.mod_lt _ (by omega)
    by_cases hn : n % 64 = i % 64
    · have : i = n := by omega
      subst this; simp [h1]
    · have : ¬ i = n := fun e => hn (by rw [e])
      simp [hn, this]
  · rw [if_neg hi]
    have : ¬ i = n := fun e => hi (by rw [e])
    simp [this]

theorem has_fill (N : Nat) (l : List Int) (hl : ∀ n ∈ l, 0 ≤ n ∧ n.toNat / 64 < N) : ∀ j i, hasL (fill N l j) i = (l.take j).any (fun n => decide (n = (i : Int)))
  | 0, i => by simp [fill, hasL, wd, List.getElem?_replicate]; split <;> simp
  | j + 1, i => by
    have ih := has_fill N l hl j i
    cases hj : l[j]? with
    | none =>
      have : fill N l (j + 1) = fill N l j := by unfold fill; rw [List.take_add_one, hj]; simp
      rw [this, ih, List.take_add_one, hj]; simp
    | some x =>
      obtain ⟨h0, h1⟩ := hl x (List.mem_of_getElem? hj)
      rw [fill_succ hj, has_setB _ _ _ (by rw [length_fill]; exact h1), ih, List.take_add_one, hj, List.any_append]
      congr 1
      simp only [Option.toList_some, List.any_cons, List.any_nil, Bool.or_false]
      congr 1
      apply propext
      omega

theorem wd_of_has {l m : List W} (h : ∀ i, hasL l i = hasL m i) : ∀ i, wd l i = wd m i := fun i => by
  apply BitVec.eq_of_getLsbD_eq
  intro j hj
  have := h (64 * i + j)
  unfold hasL at this
  rwa [show (64 * i + j) / 64 = i by omega, show (64 * i + j) % 64 = j by omega] at this

theorem load_row (l : List W) (i : Nat) (h : i < l.length) (ty b : Nat) : loadM false 1 [(b, .cells ty (l.map tw))] (.ptr b i) = some (.t (uv (wd l i))) := by
  have hx : l[i]? = some (wd l i) := by simp [wd, h]
  simp [loadM, hx, tw]

theorem shl_one {Φ : Oracle} {H : Heap} {nx : Nat} (isB : Bool) (nk : Option NK) (k : IntKind) (r : Nat) (hr : r < 64) : evalK Φ H nx (.bin isB .shl nk) [.t (.v (.int .u64 1)), .t (.v (.int k (r : Int)))] = some (.t (uv (BitVec.twoPow 64 r)), H, nx) := by
  have hn : ¬ (r : Int) < 0 := by omega
  rw [evalK_shl _ _ _ _ _ _ hn]
  have e : IntKind.u64.wrap (1 * 2 ^ min (r : Int).toNat IntKind.u64.bits) = ((BitVec.twoPow 64 r : W).toNat : Int) := by
    rw [Int.toNat_natCast, kbits_u64, Nat.min_eq_left (by omega), BitVec.toNat_twoPow]
    have h1 : 2 ^ r < 2 ^ 64 := Nat.pow_lt_pow_right (by omega) hr
    rw [Nat.mod_eq_of_lt h1, Int.one_mul, wrap_u64 (by exact Int.pow_nonneg (by omega))]
    · simp
    · have : ((2 ^ r : Nat) : Int) < ((2 ^ 64 : Nat) : Int) := by exact_mod_cast h1
      simpa using this
  rw [e]; rfl

def S9 (t : T) (l : List Int) (j : Nat) : AState := ⟨[(12, .t (iv j)), (11, .t (iv l.length)), (10, .t t), (4, .t (iv (most l j))), (0, .t t)], [], 0, 49⟩
def S9b (t : T) (l : List Int) (N j : Nat) : AState := ⟨[(32, .t (iv j)), (31, .t (iv l.length)), (30, .t t), (7, .row 0 0 N 1)], [(0, .cells 39 ((fill N l j).map tw))], 1, 49⟩

theorem ofBad : ∀ (l : List Int), (∀ n ∈ l, inR n = true) ∨ ∃ (k : Nat) (x : Int), l[k]? = some x ∧ inR x = false ∧ ∀ (j : Nat), j < k → ∀ y, l[j]? = some y → inR y = true := fun l => by
  rcases first_bad (fun i => (l[i]?).all inR) l.length with h | ⟨k, hk, h1, h2⟩
  · left
    intro n hn
    obtain ⟨i, hi, e⟩ := List.getElem_of_mem hn
    have := h i hi
    rw [List.getElem?_eq_getElem hi, e] at this
    simpa using this
  · right
    refine ⟨k, l[k], List.getElem?_eq_getElem hk, ?_, fun j hj y hy => ?_⟩
    · rw [List.getElem?_eq_getElem hk] at h2
      simpa using h2
    · have := h1 j hj
      rw [hy] at this
      simpa using this

theorem of_bad {t : T} {l : List Int} (ht : decI t = some l) (hl : l.length ≤ 1000000) {k : Nat} {x : Int} (hk : l[k]? = some x) (hb : inR x = false) (hg : ∀ (j : Nat), j < k → ∀ y, l[j]? = some y → inR y = true) :
    CallT Tryd.prog G 9 [t] (· = .tu [.v (.slice none 0 0), .v (.int .i64 2)]) := by
  have hkl : k < l.length := (List.getElem?_eq_some_iff.1 hk).1
  refine k9.call rfl ?_
  unfold M9
  refine mc_seq_runs ctx1 ?_
  simp -implicitDefEqProofs
  refine mc_seq_runs ctx1 ?_
  simp -implicitDefEqProofs
  refine mc_cut (fun _ : Unit => S9 t l l.length) (fun _ => False) (fun _ => rfl) ?_ ?_
  · refine mc_seq_runs ctx1 ?_
    simp -implicitDefEqProofs [len_decI ht]
    refine mc_block ?_
    refine mc_for (S9 t l) k (fun _ => rfl) ?_ rfl ?_ ?_
    · refine sub_forget rfl rfl ?_ ?_ <;> simp -implicitDefEqProofs [S9, iv, most]
    · intro j hj
      refine mc_runs ctx1 ?_
      obtain ⟨y, hy⟩ : ∃ y, l[j]? = some y := ⟨_, List.getElem?_eq_getElem (by omega)⟩
      have hjl : j < l.length := by omega
      have hr := hg j hj y hy
      simp only [inR, Bool.and_eq_true, decide_eq_true_eq] at hr
      have r1 : ¬ y < 0 := by omega
      have r2 : ¬ 4095 < y := by omega
      have e1 : IntKind.i64.wrap ((j : Int) + 1) = ((j + 1 : Nat) : Int) := wrap_nat (by omega) (by omega)
      have ms := most_succ hy
      unfold mo at ms
      simp -implicitDefEqProofs [S9, iv, hjl, iaddr_decI ht _ j hjl, load_dropI _ hy, r1, r2, maxV, e1]
      refine sub_forget rfl rfl ?_ ?_ <;> simp -implicitDefEqProofs [ms]
    · refine mc_runs ctx1 ?_
      by_cases r1 : x < 0
      · simp -implicitDefEqProofs [S9, iv, hkl, iaddr_decI ht _ k hkl, load_dropI _ hk, r1]
      · have r2 : 4095 < x := by
          simp only [inR, Bool.and_eq_false_iff, decide_eq_false_iff_not] at hb
          omega
        simp -implicitDefEqProofs [S9, iv, hkl, iaddr_decI ht _ k hkl, load_dropI _ hk, r1, r2]
  · rintro _ h
    exact h.elim

def wordsOf (l : List Int) : Nat := ((most l l.length + 64) / 64).toNat

theorem of_good {t : T} {l : List Int} (ht : decI t = some l) (hl : l.length ≤ 1000000) (hg : ∀ n ∈ l, inR n = true) :
    CallT Tryd.prog G 9 [t] (· = .tu [encB (normL (fill (wordsOf l) l l.length)), .v (.int .i64 0)]) := by
  refine k9.call rfl ?_
  unfold M9
  refine mc_seq_runs ctx1 ?_
  simp -implicitDefEqProofs
  refine mc_seq_runs ctx1 ?_
  simp -implicitDefEqProofs
  refine mc_cut (fun _ : Unit => S9 t l l.length) (fun _ => True) (fun _ => rfl) ?_ ?_
  · refine mc_seq_runs ctx1 ?_
    simp -implicitDefEqProofs [len_decI ht]
    refine mc_block ?_
    refine mc_for (S9 t l) l.length (fun _ => rfl) ?_ rfl ?_ ?_
    · refine sub_forget rfl rfl ?_ ?_ <;> simp -implicitDefEqProofs [S9, iv, most]
    · intro j hjl
      refine mc_runs ctx1 ?_
      obtain ⟨y, hy⟩ : ∃ y, l[j]? = some y := ⟨_, List.getElem?_eq_getElem (by omega)⟩
      have hr := hg y (List.mem_of_getElem? hy)
      simp only [inR, Bool.and_eq_true, decide_eq_true_eq] at hr
      have r1 : ¬ y < 0 := by omega
      have r2 : ¬ 4095 < y := by omega
      have e1 : IntKind.i64.wrap ((j : Int) + 1) = ((j + 1 : Nat) : Int) := wrap_nat (by omega) (by omega)
      have ms := most_succ hy
      unfold mo at ms
      simp -implicitDefEqProofs [S9, iv, hjl, iaddr_decI ht _ j hjl, load_dropI _ hy, r1, r2, maxV, e1]
      refine sub_forget rfl rfl ?_ ?_ <;> simp -implicitDefEqProofs [ms]
    · refine mc_runs ctx1 ?_
      simp -implicitDefEqProofs [S9, iv]
      exact Next.mk () trivial (sub_forget rfl rfl (by simp -implicitDefEqProofs) (by simp -implicitDefEqProofs))
  · rintro _ -
    have hm := most_ge l.length hg
    obtain ⟨N, hN⟩ : ∃ N, N = wordsOf l := ⟨_, rfl⟩
    have hN' : (N : Int) = (most l l.length + 64) / 64 := by rw [hN]; unfold wordsOf; omega
    have hN2 : N ≤ 64 := by omega
    have w1 : IntKind.i64.wrap (most l l.length + 64) = most l l.length + 64 := wrap_i64 (by omega) (by omega)
    have w2 : (most l l.length + 64).tdiv 64 = (N : Int) := by rw [Int.tdiv_eq_ediv_of_nonneg (by omega)]; omega
    have w3 : IntKind.i64.wrap (N : Int) = (N : Int) := wrap_i64 (by omega) (by omega)
    have hb1 : (8 : Int) * (N : Int) ≤ 281474976710656 := by omega
    have hb2 : (N : Int) ≤ 9223372036854775807 := by omega
    refine mc_seq_runs ctx1 ?_
    simp -implicitDefEqProofs [S9, iv, w1, w2, w3, makeM, hb1, hb2, zeros_tw]
    refine mc_cut (fun _ : Unit => S9b t l N l.length) (fun _ => True) (fun _ => rfl) ?_ ?_
    · refine mc_seq_runs ctx1 ?_
      simp -implicitDefEqProofs [len_decI ht]
      refine mc_block ?_
      refine mc_for (S9b t l N) l.length (fun _ => rfl) ?_ rfl ?_ ?_
      · refine sub_forget rfl rfl ?_ ?_ <;> simp -implicitDefEqProofs [S9b, iv, fill]
      · intro j hjl
        refine mc_runs ctx1 ?_
        obtain ⟨y, hy⟩ : ∃ y, l[j]? = some y := ⟨_, List.getElem?_eq_getElem (by omega)⟩
        have hr := hg y (List.mem_of_getElem? hy)
        have hmo := most_all l y (List.mem_of_getElem? hy)
        simp only [inR, Bool.and_eq_true, decide_eq_true_eq] at hr
        obtain ⟨m, rfl⟩ := Int.eq_ofNat_of_zero_le hr.1
        obtain ⟨q, hq⟩ : ∃ q, q = m / 64 := ⟨_, rfl⟩
        obtain ⟨r, hr⟩ : ∃ r, r = m % 64 := ⟨_, rfl⟩
        have q1 : IntKind.i64.wrap ((m : Int) / 64) = (q : Int) := by rw [wrap_i64 (by omega) (by omega)]; omega
        have r1 : (m : Int).tmod 64 = (r : Int) := by rw [Int.tmod_eq_emod_of_nonneg (by omega)]; omega
        have qN : q < N := by omega
        have e1 : IntKind.i64.wrap ((j : Int) + 1) = ((j + 1 : Nat) : Int) := wrap_nat (by omega) (by omega)
        have fs := fill_succ (N := N) hy
        simp only [Int.toNat_natCast, setB, ← hq, ← hr] at fs
        have lf := length_fill N l j
        have ld := load_row (fill N l j) q (by rw [lf]; exact qN) 39 0
        have st := fun x => store_tw (fill N l j) q x (by rw [lf]; exact qN) 39 0
        have sh : evalK (orc tb1) [(0, Row.cells 39 ((fill N l j).map tw))] 1 (.bin false .shl none) [.t (.v (.int .u64 1)), .t (.v (.int .i64 (r : Int)))] = some (.t (uv (BitVec.twoPow 64 r)), [(0, Row.cells 39 ((fill N l j).map tw))], 1) := shl_one _ _ _ r (by omega)
        simp -implicitDefEqProofs [-evalK_shl, S9b, iv, hjl, iaddr_decI ht _ j hjl, load_dropI _ hy, q1, r1, qN, ld, st, sh, e1]
        refine sub_forget rfl rfl ?_ ?_ <;> simp -implicitDefEqProofs [fs]
      · refine mc_runs ctx1 ?_
        simp -implicitDefEqProofs [S9b, iv]
        exact Next.mk () trivial (sub_forget rfl rfl (by simp -implicitDefEqProofs) (by simp -implicitDefEqProofs))
    · rintro _ -
      refine mc_runs ctx1 ?_
      have lf := length_fill N l l.length
      have gn := gNormal_sl (fill N l l.length) N lf.symm (by omega)
      have tk : List.take N ((fill N l l.length).map tw) = (fill N l l.length).map tw := List.take_of_length_le (by simp [lf])
      rw [← hN]
      simp -implicitDefEqProofs [S9b, lf, allT_tw, gn, tb1, tk]

/-! The document's Of. -/
def S10 (t : T) (l : List Int) (j : Nat) : AState := ⟨[(5, .t (iv j)), (4, .row 0 0 64 1), (0, .t t)], [(0, .cells 39 ((fill 64 l j).map tw))], 1, 50⟩

theorem rof_round {t : T} {l : List Int} (ht : decI t = some l) (hl : l.length ≤ 1000000) {j : Nat} {y : Int} (hy : l[j]? = some y) (hr : inR y = true) {Q : Exit → AState → Prop} :
    MC Tryd.prog G 0 50 (.seq (.seq (.ops [⟨(some 7), .mv, [(.tmp 5)], none⟩, ⟨(some 8), .mv, [(.tmp 0)], none⟩, ⟨(some 9), .lensl, [(.tmp 8)], none⟩, ⟨(some 10), (.bin false .lss none), [(.tmp 7), (.tmp 9)], none⟩]) (.cond (.tmp 10) .skip (.exit 0))) (.seq (.block 1 (.seq (.seq (.ops [⟨(some 13), .mv, [(.tmp 0)], none⟩, ⟨(some 14), .mv, [(.tmp 5)], none⟩, ⟨(some 15), (.iaddr 1), [(.tmp 13), (.tmp 14)], none⟩, ⟨(some 16), (.load false 1), [(.tmp 15)], none⟩, ⟨(some 17), (.bin false .lss none), [(.tmp 16), (.k (.t (.v (.int .i64 0))))], none⟩, ⟨(some 18), .mv, [(.tmp 17)], none⟩, ⟨(some 19), .mv, [(.tmp 0)], (some (18, false))⟩, ⟨(some 20), .mv, [(.tmp 5)], (some (18, false))⟩, ⟨(some 21), (.iaddr 1), [(.tmp 19), (.tmp 20)], (some (18, false))⟩, ⟨(some 22), (.load false 1), [(.tmp 21)], (some (18, false))⟩, ⟨(some 23), (.bin false .gtr none), [(.tmp 22), (.k (.t (.v (.int .i64 4095))))], (some (18, false))⟩, ⟨(some 24), .pick, [(.tmp 18), (.k (.t (.v (.bool true)))), (.tmp 23)], none⟩]) (.cond (.tmp 24) (.seq (.ops [⟨(some 2), .mv, [(.k (.t (.v (.slice none 0 0))))], none⟩, ⟨(some 3), .mv, [(.k (.t (.v (.int .i64 2))))], none⟩]) .ret) .skip)) (.draw [⟨(some 25), .mv, [(.tmp 4)], none⟩, ⟨(some 26), .mv, [(.tmp 0)], none⟩, ⟨(some 27), .mv, [(.tmp 5)], none⟩, ⟨(some 28), (.iaddr 1), [(.tmp 26), (.tmp 27)], none⟩, ⟨(some 29), (.load false 1), [(.tmp 28)], none⟩, ⟨(some 30), (.bin false .quo none), [(.tmp 29), (.k (.t (.v (.int .i64 64))))], none⟩, ⟨(some 31), .mv, [(.tmp 4)], none⟩, ⟨(some 32), .mv, [(.tmp 0)], none⟩, ⟨(some 33), .mv, [(.tmp 5)], none⟩, ⟨(some 34), (.iaddr 1), [(.tmp 32), (.tmp 33)], none⟩, ⟨(some 35), (.load false 1), [(.tmp 34)], none⟩, ⟨(some 36), (.bin false .quo none), [(.tmp 35), (.k (.t (.v (.int .i64 64))))], none⟩, ⟨(some 37), (.iaddr 1), [(.tmp 31), (.tmp 36)], none⟩, ⟨(some 38), (.load false 1), [(.tmp 37)], none⟩, ⟨(some 39), .mv, [(.tmp 0)], none⟩, ⟨(some 40), .mv, [(.tmp 5)], none⟩, ⟨(some 41), (.iaddr 1), [(.tmp 39), (.tmp 40)], none⟩, ⟨(some 42), (.load false 1), [(.tmp 41)], none⟩, ⟨(some 43), (.bin false .rem none), [(.tmp 42), (.k (.t (.v (.int .i64 64))))], none⟩, ⟨(some 44), (.conv (some .u64)), [(.tmp 43)], none⟩, ⟨(some 45), (.bin false .shl none), [(.k (.t (.v (.int .u64 1)))), (.tmp 44)], none⟩, ⟨(some 46), (.bin false .or none), [(.tmp 38), (.tmp 45)], none⟩, ⟨(some 47), (.iaddr 1), [(.tmp 25), (.tmp 30)], none⟩, ⟨none, (.store 1), [(.tmp 47), (.tmp 46)], none⟩]))) (.ops [⟨(some 11), .mv, [(.tmp 5)], none⟩, ⟨(some 12), (.bin false .add none), [(.tmp 11), (.k (.t (.v (.int .i64 1))))], none⟩, ⟨(some 5), .mv, [(.tmp 12)], none⟩])))
      (RoundTo Tryd.prog G 0 (S10 t l (j + 1)) Q) (S10 t l j) := by
  have hjl : j < l.length := (List.getElem?_eq_some_iff.1 hy).1
  refine mc_runs ctx2 ?_
  simp only [inR, Bool.and_eq_true, decide_eq_true_eq] at hr
  obtain ⟨m, rfl⟩ := Int.eq_ofNat_of_zero_le hr.1
  have r2 : ¬ 4095 < (m : Int) := by omega
  have r0 : ¬ (m : Int) < 0 := by omega
  obtain ⟨q, hq⟩ : ∃ q, q = m / 64 := ⟨_, rfl⟩
  obtain ⟨r, hr⟩ : ∃ r, r = m % 64 := ⟨_, rfl⟩
  have q1 : IntKind.i64.wrap ((m : Int) / 64) = (q : Int) := by rw [wrap_i64 (by omega) (by omega)]; omega
  have r1 : (m : Int).tmod 64 = (r : Int) := by rw [Int.tmod_eq_emod_of_nonneg (by omega)]; omega
  have r3 : IntKind.u64.wrap (r : Int) = (r : Int) := wrap_u64 (by omega) (by omega)
  have qN : q < 64 := by omega
  have qN' : (q : Int) < 64 := by omega
  have e1 : IntKind.i64.wrap ((j : Int) + 1) = ((j + 1 : Nat) : Int) := wrap_nat (by omega) (by omega)
  have fs := fill_succ (N := 64) hy
  simp only [Int.toNat_natCast, setB, ← hq, ← hr] at fs
  have lf := length_fill 64 l j
  have ld := load_row (fill 64 l j) q (by rw [lf]; exact qN) 39 0
  have st := fun x => store_tw (fill 64 l j) q x (by rw [lf]; exact qN) 39 0
  have sh : evalK (orc tb2) [(0, Row.cells 39 ((fill 64 l j).map tw))] 1 (.bin false .shl none) [.t (.v (.int .u64 1)), .t (.v (.int .u64 (r : Int)))] = some (.t (uv (BitVec.twoPow 64 r)), [(0, Row.cells 39 ((fill 64 l j).map tw))], 1) := shl_one _ _ _ r (by omega)
  have ir : iaddrM 1 (.row 0 0 64 1) (.t (.v (.int .i64 (q : Int)))) = some (.ptr 0 q) := by simp [iaddrM, qN']
  simp -implicitDefEqProofs [-evalK_shl, S10, iv, hjl, len_decI ht, iaddr_decI ht _ j hjl, load_dropI _ hy, r0, r2, q1, r1, r3, qN, qN', ld, st, sh, ir, e1]
  refine sub_forget rfl rfl ?_ ?_ <;> simp -implicitDefEqProofs [fs]

theorem rof_bad {t : T} {l : List Int} (ht : decI t = some l) (hl : l.length ≤ 1000000) {k : Nat} {x : Int} (hk : l[k]? = some x) (hb : inR x = false) (hg : ∀ (j : Nat), j < k → ∀ y, l[j]? = some y → inR y = true) :
    CallT Tryd.prog G 10 [t] (· = .tu [.v (.slice none 0 0), .v (.int .i64 2)]) := by
  have hkl : k < l.length := (List.getElem?_eq_some_iff.1 hk).1
  refine k10.call rfl ?_
  unfold M10
  refine mc_seq_runs ctx2 ?_
  simp -implicitDefEqProofs
  refine mc_seq_runs ctx2 ?_
  simp -implicitDefEqProofs [makeM, zeros_tw]
  refine mc_cut (fun _ : Unit => S10 t l l.length) (fun _ => False) (fun _ => rfl) ?_ ?_
  · refine mc_seq_runs ctx2 ?_
    simp -implicitDefEqProofs
    refine mc_block ?_
    refine mc_for (S10 t l) k (fun _ => rfl) ?_ rfl ?_ ?_
    · refine sub_forget rfl rfl ?_ ?_ <;> simp -implicitDefEqProofs [S10, iv, fill, tw]
    · intro j hj
      obtain ⟨y, hy⟩ : ∃ y, l[j]? = some y := ⟨_, List.getElem?_eq_getElem (by omega)⟩
      exact rof_round ht hl hy (hg j hj y hy)
    · refine mc_runs ctx2 ?_
      by_cases r1 : x < 0
      · simp -implicitDefEqProofs [S10, iv, hkl, len_decI ht, iaddr_decI ht _ k hkl, load_dropI _ hk, r1]
      · have r2 : 4095 < x := by
          simp only [inR, Bool.and_eq_false_iff, decide_eq_false_iff_not] at hb
          omega
        simp -implicitDefEqProofs [S10, iv, hkl, len_decI ht, iaddr_decI ht _ k hkl, load_dropI _ hk, r1, r2]
  · rintro _ h
    exact h.elim

theorem rof_good {t : T} {l : List Int} (ht : decI t = some l) (hl : l.length ≤ 1000000) (hg : ∀ n ∈ l, inR n = true) :
    CallT Tryd.prog G 10 [t] (· = .tu [encB (normL (fill 64 l l.length)), .v (.int .i64 0)]) := by
  refine k10.call rfl ?_
  unfold M10
  refine mc_seq_runs ctx2 ?_
  simp -implicitDefEqProofs
  refine mc_seq_runs ctx2 ?_
  simp -implicitDefEqProofs [makeM, zeros_tw]
  refine mc_cut (fun _ : Unit => S10 t l l.length) (fun _ => True) (fun _ => rfl) ?_ ?_
  · refine mc_seq_runs ctx2 ?_
    simp -implicitDefEqProofs
    refine mc_block ?_
    refine mc_for (S10 t l) l.length (fun _ => rfl) ?_ rfl ?_ ?_
    · refine sub_forget rfl rfl ?_ ?_ <;> simp -implicitDefEqProofs [S10, iv, fill, tw]
    · intro j hj
      obtain ⟨y, hy⟩ : ∃ y, l[j]? = some y := ⟨_, List.getElem?_eq_getElem (by omega)⟩
      exact rof_round ht hl hy (hg y (List.mem_of_getElem? hy))
    · refine mc_runs ctx2 ?_
      simp -implicitDefEqProofs [S10, iv, len_decI ht]
      exact Next.mk () trivial (sub_forget rfl rfl (by simp -implicitDefEqProofs) (by simp -implicitDefEqProofs))
  · rintro _ -
    refine mc_runs ctx2 ?_
    have lf := length_fill 64 l l.length
    have gn := gRN_sl (fill 64 l l.length) 64 lf.symm (by omega)
    have tk : List.take 64 ((fill 64 l l.length).map tw) = (fill 64 l l.length).map tw := List.take_of_length_le (by simp [lf])
    simp -implicitDefEqProofs [S10, lf, allT_tw, gn, tb2, tk]

/-- The two agree. -/
theorem fill_eq (l : List Int) (hg : ∀ n ∈ l, inR n = true) : normL (fill (wordsOf l) l l.length) = normL (fill 64 l l.length) := by
  apply normL_ext
  apply wd_of_has
  have hm := most_ge l.length hg
  have h1 : ∀ n ∈ l, 0 ≤ n ∧ n.toNat / 64 < 64 := fun n hn => by
    have := hg n hn
    simp only [inR, Bool.and_eq_true, decide_eq_true_eq] at this
    omega
  have h2 : ∀ n ∈ l, 0 ≤ n ∧ n.toNat / 64 < wordsOf l := fun n hn => by
    have h3 := most_all l n hn
    have := h1 n hn
    unfold wordsOf
    omega
  intro i
  rw [has_fill _ l h2, has_fill _ l h1]

/-- What Of and the document's Of return. -/
def ofT (l : List Int) : T := if l.all inR then .tu [encB (normL (fill 64 l l.length)), .v (.int .i64 0)] else .tu [.v (.slice none 0 0), .v (.int .i64 2)]
theorem of_call {t : T} {l : List Int} (ht : decI t = some l) (hl : l.length ≤ 1000000) : CallT Tryd.prog G 9 [t] (· = ofT l) := by
  unfold ofT
  rcases ofBad l with h | ⟨k, x, hk, hx, hg⟩
  · rw [if_pos (List.all_eq_true.2 h), ← fill_eq l h]
    exact of_good ht hl h
  · have : ¬ l.all inR = true := fun h => by
      rw [List.all_eq_true.1 h x (List.mem_of_getElem? hk)] at hx; cases hx
    rw [if_neg this]
    exact of_bad ht hl hk hx hg
theorem rof_call {t : T} {l : List Int} (ht : decI t = some l) (hl : l.length ≤ 1000000) : CallT Tryd.prog G 10 [t] (· = ofT l) := by
  unfold ofT
  rcases ofBad l with h | ⟨k, x, hk, hx, hg⟩
  · rw [if_pos (List.all_eq_true.2 h)]
    exact rof_good ht hl h
  · have : ¬ l.all inR = true := fun h => by
      rw [List.all_eq_true.1 h x (List.mem_of_getElem? hk)] at hx; cases hx
    rw [if_neg this]
    exact rof_bad ht hl hk hx hg

/-- A contract of a function of a list of numbers. -/
def gI (f : List Int → T) : List T → Option T
  | [a] => match decI a with
    | some l => if l.length ≤ 1000000 then some (f l) else none
    | none => none
  | _ => none
theorem gI_ok {F : Nat} {f : List Int → T} (h : ∀ {a : T} {l : List Int}, decI a = some l → l.length ≤ 1000000 → CallT Tryd.prog G F [a] (· = f l)) : GOK Tryd.prog G F (gI f) := by
  intro args r e
  unfold gI at e
  split at e
  · split at e
    · rename_i l ha
      split at e
      · rename_i hl
        injection e with e; subst e
        exact h ha hl
      · cases e
    · cases e
  · cases e
theorem gI_eq {f : List Int → T} {a : T} {l : List Int} (ha : decI a = some l) (hl : l.length ≤ 1000000) : gI f [a] = some (f l) := by
  simp [gI, ha, hl]
def gSI : List T → Option T
  | [a, b] => match decI a, decI b with
    | some l, some m => if l.length ≤ 1000000 ∧ l = m then some (.v (.bool true)) else none
    | _, _ => none
  | _ => none
theorem gSI_ok : GOK Tryd.prog G 12 gSI := by
  intro args r e
  unfold gSI at e
  split at e
  · split at e
    · rename_i l m ha hb
      split at e
      · rename_i hl
        injection e with e; subst e
        obtain ⟨hl, rfl⟩ := hl
        exact sameInts_call ha hb hl
      · cases e
    · cases e
  · cases e
theorem gSI_eq {l : List Int} (hl : l.length ≤ 1000000) : gSI [treeL iv l, treeL iv l] = some (.v (.bool true)) := by
  simp [gSI, decI_tree, hl]

def tb10 : Tbl := [(9, gI ofT), (10, gI ofT), (13, g1 fEls), (14, g1 fEls), (12, gSI), (21, gHas), (23, g2 fSub), (25, g2 fEq), (27, g1 fCnt), (8, g0), (11, g2 fSame)]
theorem tb10_ok : TblOK Tryd.prog G tb10 :=
  .cons (gI_ok of_call) <| .cons (gI_ok rof_call) <| .cons (g1_ok list_call) <| .cons (g1_ok rlist_call) <| .cons gSI_ok <| .cons (gHas_ok has_call has_neg) <| .cons (g2_ok sub_call) <| .cons (g2_ok eq_call) <|
  .cons (g1_ok count_call) <| .cons example_ok <| .cons (g2_ok same_call) .nil
theorem ctx10 : Ctx Tryd.prog G (orc tb10) := tb10_ok.ctx mixed
end Go.Proofs.YtlebaobbjehaeaaDoor
