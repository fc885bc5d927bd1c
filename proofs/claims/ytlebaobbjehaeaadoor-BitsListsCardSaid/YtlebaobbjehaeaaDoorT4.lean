/-
  The document's own And, Or, Minus, word, normal and Same: what they return.
-/
import Derived.Test.YtlebaobbjehaeaaDoorT3
namespace Go.Proofs.YtlebaobbjehaeaaDoor
set_option linter.unusedSimpArgs false
set_option linter.unusedVariables false
open Go Go.Abs

theorem rword_any {b : T} {l : List W} (hb : decB b = some l) (i : Nat) : CallT Tryd.prog G 32 [b, .v (.int .i64 (i : Int))] (· = uv (wd l i)) := by
  by_cases hi : i < l.length
  · have hx : l[i]? = some (wd l i) := by simp [wd, hi]
    refine k32.runs ctx0 rfl ?_
    simp -implicitDefEqProofs [M32, len_dec hb, iaddr_dec hb, load_drop _ hx, hi]
  · refine k32.runs ctx0 rfl ?_
    have hw : wd l i = 0 := by simp [wd, hi]
    simp -implicitDefEqProofs [M32, len_dec hb, hi, hw, uv]

theorem rword_ok : GOK Tryd.prog G 32 gWord := by
  intro args r h
  unfold gWord at h
  split at h
  · split at h
    · rename_i i l hl
      split at h
      · rename_i h0
        injection h with h; subst h
        obtain ⟨n, rfl⟩ := Int.eq_ofNat_of_zero_le h0
        exact rword_any hl n
      · cases h
    · cases h
  · cases h

theorem rnormal_call {t : T} {l : List W} (hb : decB t = some l) (hl : l.length ≤ 1000) : CallT Tryd.prog G 30 [t] (· = encB (normL l)) := by
  refine k30.call rfl ?_
  unfold M30
  refine mc_seq_runs ctx0 ?_
  simp -implicitDefEqProofs
  refine mc_seq_runs ctx0 ?_
  simp -implicitDefEqProofs [len_dec hb]
  refine mc_cut (Sn 23 t) (fun a => a ≤ l.length ∧ normL l = l.take a) (fun _ => rfl) ?_ ?_
  · refine mc_block ?_
    refine mc_while (Sn 23 t) id (fun a => a ≤ l.length ∧ normL (l.take a) = normL l) l.length (fun _ => rfl) ⟨Nat.le_refl _, by simp⟩ ?_ rfl ?_
    · refine sub_forget rfl rfl ?_ ?_ <;> simp -implicitDefEqProofs [Sn]
    · rintro a ⟨ha, hn⟩
      refine mc_runs ctx0 ?_
      cases a with
      | zero =>
        simp -implicitDefEqProofs [Sn]
        refine Next.mk 0 ?_ (sub_forget rfl rfl ?_ ?_)
        · exact ⟨by omega, by rw [← hn]; simp [normL]⟩
        all_goals simp -implicitDefEqProofs [Sn]
      | succ a =>
        have e1 : IntKind.i64.wrap (a : Int) = (a : Int) := wrap_i64 (by omega) (by omega)
        obtain ⟨x, hx⟩ : ∃ x, l[a]? = some x := ⟨_, List.getElem?_eq_getElem (by omega)⟩
        have ha' : a < l.length := by omega
        by_cases h0 : x = 0
        · subst h0
          simp -implicitDefEqProofs [Sn, e1, iaddr_dec hb, load_drop _ hx, ha', uv]
          refine Next.mk a ?_ (sub_forget rfl rfl ?_ ?_)
          · exact ⟨⟨by omega, by rw [← hn, normL_zero ha' hx]⟩, by simp⟩
          all_goals simp -implicitDefEqProofs [Sn]
        · have h0' : ((x.toNat : Int) == 0) = false := by
            rw [beq_eq_false_iff_ne]
            exact fun h => h0 (BitVec.eq_of_toNat_eq (by simpa using h))
          simp -implicitDefEqProofs [Sn, e1, iaddr_dec hb, load_drop _ hx, ha', uv, h0']
          refine Next.mk (a + 1) ?_ (sub_forget rfl rfl ?_ ?_)
          · exact ⟨by omega, by rw [← hn, normL_stop hx h0]⟩
          all_goals simp -implicitDefEqProofs [Sn]
  · rintro a ⟨ha, hn⟩
    refine mc_runs ctx0 ?_
    have b1 : a * 8 ≤ 140737488355328 := by omega
    have b2 : a ≤ 9223372036854775807 := by omega
    rcases decB_cases hb with ⟨rfl, rfl⟩ | rfl
    · have : a = 0 := by simpa using ha
      subst this
      simp -implicitDefEqProofs [Sn, nilT, bsliceM, fillP, zeros, sliceM, srcP, appM, encB, hn]
    · have tk : allT (List.take a (l.map (PV.t ∘ uv))) = some (List.take a (l.map uv)) := by rw [← allT_map_t, List.map_take, List.map_map]
      simp -implicitDefEqProofs [Sn, bsliceM, fillP, zeros, sliceM, srcP, appM, encB, hn, ha, b1, b2, List.take_take, tk]
def gRN : List T → Option T
  | [t] => match decB t with
    | some l => if l.length ≤ 1000 then some (encB (normL l)) else none
    | none => none
  | _ => none
theorem rnormal_ok : GOK Tryd.prog G 30 gRN := by
  intro args r h
  unfold gRN at h
  split at h
  · split at h
    · rename_i l hl
      split at h
      · rename_i hlt
        injection h with h; subst h
        exact rnormal_call hl hlt
      · cases h
    · cases h
  · cases h
theorem gRN_nil : gRN [.v (.slice none 0 0)] = some (encB []) := rfl
theorem gRN_sl (l : List W) (n : Nat) (hn : n = l.length) (h : l.length ≤ 1000) : gRN [.sl n (l.map uv)] = some (encB (normL l)) := by
  subst hn
  have := decB_encB l
  unfold encB at this
  simp [gRN, this, h]

def tb2 : Tbl := [(30, gRN), (32, gWord)]
theorem ctx2 : Ctx Tryd.prog G (orc tb2) := (TblOK.cons rnormal_ok (TblOK.cons rword_ok TblOK.nil)).ctx mixed

def upTo (f : Nat → W) (n : Nat) : List W := (List.range n).map f
theorem upTo_succ (f : Nat → W) (n : Nat) : upTo f (n + 1) = upTo f n ++ [f n] := by simp [upTo, List.range_succ]
theorem length_upTo (f : Nat → W) (n : Nat) : (upTo f n).length = n := by simp [upTo]

def rowAt : Nat → PV
  | 0 => .t (.v (.slice none 0 0))
  | k + 1 => .row (2 * k + 1) 0 (k + 1) 1
def heapAt (f : Nat → W) : Nat → Heap
  | 0 => []
  | k + 1 => [(2 * k + 1, .cells 39 ((upTo f (k + 1)).map tw))]
def treeAt (f : Nat → W) : Nat → T
  | 0 => .v (.slice none 0 0)
  | k + 1 => .sl (k + 1) ((upTo f (k + 1)).map uv)
def lentAt : Nat → List Nat
  | 0 => []
  | k + 1 => [2 * k + 1]

theorem app_at (f : Nat → W) (j : Nat) (hj : j ≤ 1000) : appM 39 1 8 ((2 * j, .cells 39 [.t (uv (f j))]) :: heapAt f j) (2 * j + 1) (rowAt j) (.row (2 * j) 0 1 1) = some (rowAt (j + 1), heapAt f (j + 1) ++ [(2 * j, .cells 39 [.t (uv (f j))])], 2 * (j + 1)) := by
  cases j with
  | zero => simp [appM, srcP, heapAt, rowAt, upTo, tw]
  | succ k =>
    have b1 : (k + 1 + 1) * 8 ≤ 140737488355328 := by omega
    have b2 : k + 1 + 1 ≤ 9223372036854775807 := by omega
    have e : 2 * (k + 1) = 2 * k + 2 := by omega
    simp [appM, srcP, heapAt, rowAt, length_upTo, b1, b2, e, upTo_succ, tw]
    omega

theorem toT_at (f : Nat → W) (n : Nat) : toT (heapAt f n) (rowAt n) = some (treeAt f n, lentAt n) := by
  cases n with
  | zero => rfl
  | succ k =>
    have tk : List.take (k + 1) ((upTo f (k + 1)).map tw) = (upTo f (k + 1)).map tw := List.take_of_length_le (by simp [length_upTo])
    simp [heapAt, rowAt, treeAt, lentAt, length_upTo, tk, allT_tw]

theorem gRN_at (f : Nat → W) (n : Nat) (h : n ≤ 1000) : gRN [treeAt f n] = some (encB (normL (upTo f n))) := by
  cases n with
  | zero => rfl
  | succ k => exact gRN_sl _ _ (length_upTo f _).symm (by rw [length_upTo]; exact h)

def SR (N : Nat) (a b : T) (f : Nat → W) (j : Nat) : AState := ⟨[(6, .t (.v (.int .i64 (j : Int)))), (5, rowAt j), (1, .t b), (0, .t a)], heapAt f j, 2 * j, N⟩

theorem rand_call {a b : T} {l m : List W} (ha : decB a = some l) (hb : decB b = some m) (hl : l.length ≤ 1000) (hm : m.length ≤ 1000) : CallT Tryd.prog G 16 [a, b] (· = encB (normL (upTo (fun i => wd l i &&& wd m i) (l.length)))) := by
  refine k16.call rfl ?_
  unfold M16
  refine mc_seq_runs ctx2 ?_
  simp -implicitDefEqProofs
  refine mc_seq_runs ctx2 ?_
  simp -implicitDefEqProofs
  obtain ⟨n, hn⟩ : ∃ n, n = l.length := ⟨_, rfl⟩
  rw [← hn]
  have hmin : (l.length : Int) = (n : Int) := by omega
  refine mc_cut (fun _ : Unit => SR 26 a b (fun i => wd l i &&& wd m i) n) (fun _ => True) (fun _ => rfl) ?_ ?_
  · refine mc_seq_runs ctx2 ?_
    simp -implicitDefEqProofs
    refine mc_block ?_
    refine mc_for (SR 26 a b (fun i => wd l i &&& wd m i)) n (fun _ => rfl) ?_ rfl ?_ ?_
    · refine sub_forget rfl rfl ?_ ?_ <;> simp -implicitDefEqProofs [SR, rowAt, heapAt]
    · intro j hj
      refine mc_runs ctx2 ?_
      have h1 : (j : Int) < (l.length : Int) := by omega
      have x1 : l[j]? = some (wd l j) := by simp [wd, show j < l.length by omega]
      have w2 := gWord_eq hb j
      have i1 := iaddr_dec ha .i64 j (by omega) h1
      simp only [Int.toNat_natCast] at i1
      have e1 : IntKind.i64.wrap ((j : Int) + 1) = ((j + 1 : Nat) : Int) := wrap_nat (by omega) (by omega)
      have fj : ∀ x : W, fillP (fun i => some (i, 1)) [.t (.v (.int .u64 0))] [(0, .t (uv x))] = some [.t (uv x)] := fun x => rfl
      have ap := app_at (fun i => wd l i &&& wd m i) j (by omega)
      simp -implicitDefEqProofs [SR, hj, i1, load_drop _ x1, w2, tb2, bsliceM, zeros, fj, ap, len_dec ha, len_dec hb, hmin, e1]
      refine sub_forget rfl rfl ?_ ?_ <;> simp -implicitDefEqProofs [heapAt]
    · refine mc_runs ctx2 ?_
      simp -implicitDefEqProofs [SR, len_dec ha, len_dec hb, hmin]
      exact Next.mk () trivial (sub_forget rfl rfl (by simp -implicitDefEqProofs) (by cases n <;> simp -implicitDefEqProofs [heapAt]))
  · rintro _ -
    refine mc_runs ctx2 ?_
    have tt := toT_at (fun i => wd l i &&& wd m i) n
    have gn := gRN_at (fun i => wd l i &&& wd m i) n (by omega)
    simp -implicitDefEqProofs [SR, tt, gn, tb2]

theorem ror_call {a b : T} {l m : List W} (ha : decB a = some l) (hb : decB b = some m) (hl : l.length ≤ 1000) (hm : m.length ≤ 1000) : CallT Tryd.prog G 18 [a, b] (· = encB (normL (upTo (fun i => wd l i ||| wd m i) (max l.length m.length)))) := by
  refine k18.call rfl ?_
  unfold M18
  refine mc_seq_runs ctx2 ?_
  simp -implicitDefEqProofs
  refine mc_seq_runs ctx2 ?_
  simp -implicitDefEqProofs
  obtain ⟨n, hn⟩ : ∃ n, n = max l.length m.length := ⟨_, rfl⟩
  rw [← hn]
  have hmin : (if l.length < m.length then (m.length : Int) else (l.length : Int)) = (n : Int) := by split <;> omega
  refine mc_cut (fun _ : Unit => SR 28 a b (fun i => wd l i ||| wd m i) n) (fun _ => True) (fun _ => rfl) ?_ ?_
  · refine mc_seq_runs ctx2 ?_
    simp -implicitDefEqProofs
    refine mc_block ?_
    refine mc_for (SR 28 a b (fun i => wd l i ||| wd m i)) n (fun _ => rfl) ?_ rfl ?_ ?_
    · refine sub_forget rfl rfl ?_ ?_ <;> simp -implicitDefEqProofs [SR, rowAt, heapAt]
    · intro j hj
      refine mc_runs ctx2 ?_
      have w1 := gWord_eq ha j
      have w2 := gWord_eq hb j
      have e1 : IntKind.i64.wrap ((j : Int) + 1) = ((j + 1 : Nat) : Int) := wrap_nat (by omega) (by omega)
      have fj : ∀ x : W, fillP (fun i => some (i, 1)) [.t (.v (.int .u64 0))] [(0, .t (uv x))] = some [.t (uv x)] := fun x => rfl
      have ap := app_at (fun i => wd l i ||| wd m i) j (by omega)
      simp -implicitDefEqProofs [SR, hj, w1, w2, tb2, bsliceM, zeros, fj, ap, len_dec ha, len_dec hb, hmin, e1]
      refine sub_forget rfl rfl ?_ ?_ <;> simp -implicitDefEqProofs [heapAt]
    · refine mc_runs ctx2 ?_
      simp -implicitDefEqProofs [SR, len_dec ha, len_dec hb, hmin]
      exact Next.mk () trivial (sub_forget rfl rfl (by simp -implicitDefEqProofs) (by cases n <;> simp -implicitDefEqProofs [heapAt]))
  · rintro _ -
    refine mc_runs ctx2 ?_
    have tt := toT_at (fun i => wd l i ||| wd m i) n
    have gn := gRN_at (fun i => wd l i ||| wd m i) n (by omega)
    simp -implicitDefEqProofs [SR, tt, gn, tb2]

theorem rminus_call {a b : T} {l m : List W} (ha : decB a = some l) (hb : decB b = some m) (hl : l.length ≤ 1000) (hm : m.length ≤ 1000) : CallT Tryd.prog G 20 [a, b] (· = encB (normL (upTo (fun i => wd l i &&& ~~~ wd m i) (l.length)))) := by
  refine k20.call rfl ?_
  unfold M20
  refine mc_seq_runs ctx2 ?_
  simp -implicitDefEqProofs
  refine mc_seq_runs ctx2 ?_
  simp -implicitDefEqProofs
  obtain ⟨n, hn⟩ : ∃ n, n = l.length := ⟨_, rfl⟩
  rw [← hn]
  have hmin : (l.length : Int) = (n : Int) := by omega
  refine mc_cut (fun _ : Unit => SR 26 a b (fun i => wd l i &&& ~~~ wd m i) n) (fun _ => True) (fun _ => rfl) ?_ ?_
  · refine mc_seq_runs ctx2 ?_
    simp -implicitDefEqProofs
    refine mc_block ?_
    refine mc_for (SR 26 a b (fun i => wd l i &&& ~~~ wd m i)) n (fun _ => rfl) ?_ rfl ?_ ?_
    · refine sub_forget rfl rfl ?_ ?_ <;> simp -implicitDefEqProofs [SR, rowAt, heapAt]
    · intro j hj
      refine mc_runs ctx2 ?_
      have h1 : (j : Int) < (l.length : Int) := by omega
      have x1 : l[j]? = some (wd l j) := by simp [wd, show j < l.length by omega]
      have w2 := gWord_eq hb j
      have i1 := iaddr_dec ha .i64 j (by omega) h1
      simp only [Int.toNat_natCast] at i1
      have e1 : IntKind.i64.wrap ((j : Int) + 1) = ((j + 1 : Nat) : Int) := wrap_nat (by omega) (by omega)
      have fj : ∀ x : W, fillP (fun i => some (i, 1)) [.t (.v (.int .u64 0))] [(0, .t (uv x))] = some [.t (uv x)] := fun x => rfl
      have ap := app_at (fun i => wd l i &&& ~~~ wd m i) j (by omega)
      simp -implicitDefEqProofs [SR, hj, i1, load_drop _ x1, w2, tb2, bsliceM, zeros, fj, ap, len_dec ha, len_dec hb, hmin, e1]
      refine sub_forget rfl rfl ?_ ?_ <;> simp -implicitDefEqProofs [heapAt]
    · refine mc_runs ctx2 ?_
      simp -implicitDefEqProofs [SR, len_dec ha, len_dec hb, hmin]
      exact Next.mk () trivial (sub_forget rfl rfl (by simp -implicitDefEqProofs) (by cases n <;> simp -implicitDefEqProofs [heapAt]))
  · rintro _ -
    refine mc_runs ctx2 ?_
    have tt := toT_at (fun i => wd l i &&& ~~~ wd m i) n
    have gn := gRN_at (fun i => wd l i &&& ~~~ wd m i) n (by omega)
    simp -implicitDefEqProofs [SR, tt, gn, tb2]
end Go.Proofs.YtlebaobbjehaeaaDoor
