/-
  Count, and the document's List and Count: what they return.
-/
import Derived.Test.YtlebaobbjehaeaaDoorT7
namespace Go.Proofs.YtlebaobbjehaeaaDoor
set_option linter.unusedSimpArgs false
set_option linter.unusedVariables false
open Go Go.Abs

def iv (n : Int) : T := .v (.int .i64 n)

/-! A slice that a loop appends to, one element a round: its row, and the rows. -/
section
variable {α : Type}
def rowL : List α → PV
  | [] => .t (.v (.slice none 0 0))
  | _ :: r => .row (2 * r.length + 1) 0 (r.length + 1) 1
def heapL (ty : Nat) (e : α → T) : List α → Heap
  | [] => []
  | x :: r => [(2 * r.length + 1, .cells ty ((x :: r).map fun y => .t (e y)))]
def treeL (e : α → T) : List α → T
  | [] => .v (.slice none 0 0)
  | x :: r => .sl (r.length + 1) ((x :: r).map e)
def lentL : List α → List Nat
  | [] => []
  | _ :: r => [2 * r.length + 1]

theorem app_L (ty : Nat) (e : α → T) (l : List α) (x : α) (h : l.length ≤ 1000000) :
    appM ty 1 8 ((2 * l.length, .cells ty [.t (e x)]) :: heapL ty e l) (2 * l.length + 1) (rowL l) (.row (2 * l.length) 0 1 1)
      = some (rowL (l ++ [x]), heapL ty e (l ++ [x]) ++ [(2 * l.length, .cells ty [.t (e x)])], 2 * (l ++ [x]).length) := by
  cases l with
  | nil => simp [appM, srcP, heapL, rowL]
  | cons y r =>
    simp only [List.length_cons] at h
    have b1 : (r.length + 1 + 1) * 8 ≤ 140737488355328 := by omega
    have b2 : r.length + 1 + 1 ≤ 9223372036854775807 := by omega
    have e1 : 2 * (r.length + 1) = 2 * r.length + 2 := by omega
    simp [appM, srcP, heapL, rowL, b1, b2, e1]
    omega

theorem toT_L (ty : Nat) (e : α → T) (l : List α) : toT (heapL ty e l) (rowL l) = some (treeL e l, lentL l) := by
  cases l with
  | nil => rfl
  | cons x r =>
    have h1 : allT (List.map (fun y => PV.t (e y)) r) = some (r.map e) := by rw [← allT_map_t, List.map_map]; rfl
    have tk : List.take (r.length + 1) ((x :: r).map fun y => PV.t (e y)) = (x :: r).map fun y => .t (e y) := List.take_of_length_le (by simp)
    simp only [heapL, rowL, toT, look_cons, if_true, List.drop_zero, Nat.mul_one, tk, Nat.zero_add]
    simp [treeL, lentL, h1]

theorem heapL_look (ty : Nat) (e : α → T) (l : List α) (H : Heap) : ∀ q ∈ heapL ty e l, Abs.look (heapL ty e l ++ H) q.1 = some q.2 := by
  cases l with
  | nil => intro q h; simp [heapL] at h
  | cons x r =>
    intro q h
    simp only [heapL, List.mem_singleton] at h
    subst h
    simp [heapL]
theorem heapL_look' (ty : Nat) (e : α → T) (l : List α) : ∀ q ∈ heapL ty e l, Abs.look (heapL ty e l) q.1 = some q.2 := by
  have := heapL_look ty e l []
  simpa using this
end

/-! Count. -/
theorem sum_le (c : Nat) : ∀ l : List Nat, (∀ d ∈ l, d ≤ c) → l.sum ≤ c * l.length
  | [], _ => by simp
  | x :: l, h => by
    have h1 := sum_le c l fun d hd => h d (by simp [hd])
    have h2 := h x (by simp)
    rw [List.sum_cons, List.length_cons, Nat.mul_add]
    omega
theorem popc_le (x : Nat) : popc x ≤ 64 := by
  unfold popc
  have h := sum_le 1 (digs 2 64 x) (digs_lt 2 (by omega) 64 x)
  rw [length_digs] at h
  omega
def cntUpTo (l : List W) (n : Nat) : Nat := ((l.take n).map fun x => popc x.toNat).sum
def cnt (l : List W) : Nat := (l.map fun x => popc x.toNat).sum
theorem cntUpTo_succ {l : List W} {n : Nat} {x : W} (h : l[n]? = some x) : cntUpTo l (n + 1) = cntUpTo l n + popc x.toNat := by
  unfold cntUpTo
  rw [List.take_add_one, h]
  simp
theorem cntUpTo_le (l : List W) : ∀ n, cntUpTo l n ≤ 64 * n
  | 0 => by simp [cntUpTo]
  | n + 1 => by
    have ih := cntUpTo_le l n
    cases h : l[n]? with
    | none =>
      unfold cntUpTo at *
      rw [List.take_add_one, h]
      simp at ih ⊢
      omega
    | some x =>
      rw [cntUpTo_succ h]
      have := popc_le x.toNat
      omega
theorem cntUpTo_all (l : List W) : cntUpTo l l.length = cnt l := by simp [cntUpTo, cnt]

def onesT (x : W) : T := iv (popc x.toNat)
def gOnes : List T → Option T
  | [t] => (decU t).map onesT
  | _ => none
theorem ones_ok : GOK Tryd.prog G 34 gOnes := by
  intro args r h
  unfold gOnes at h
  split at h
  · obtain ⟨x, hx, rfl⟩ := Option.map_eq_some_iff.1 h
    rw [decU_some hx]
    exact ones_call x
  · cases h
theorem gOnes_uv (x : W) : gOnes [uv x] = some (onesT x) := by
  show (decU (uv x)).map onesT = _
  rw [decU_uv]; rfl
theorem onesT_eq (x : W) : onesT x = .v (.int .i64 (popc x.toNat : Int)) := rfl
def tb6 : Tbl := [(34, gOnes)]
theorem ctx6 : Ctx Tryd.prog G (orc tb6) := (TblOK.cons ones_ok TblOK.nil).ctx mixed

def S27 (t : T) (n : Nat) (l : List W) (j : Nat) : AState := ⟨[(8, .t (iv j)), (7, .t (iv n)), (6, .t t), (3, .t (iv (cntUpTo l j)))], [], 0, 18⟩

theorem count_call {t : T} {l : List W} (ht : decB t = some l) (hl : l.length ≤ 1000) : CallT Tryd.prog G 27 [t] (· = iv (cnt l)) := by
  refine k27.call rfl ?_
  unfold M27
  refine mc_seq_runs ctx6 ?_
  simp -implicitDefEqProofs
  refine mc_seq_runs ctx6 ?_
  simp -implicitDefEqProofs
  refine mc_cut (fun _ : Unit => S27 t l.length l l.length) (fun _ => True) (fun _ => rfl) ?_ ?_
  · refine mc_seq_runs ctx6 ?_
    simp -implicitDefEqProofs [len_dec ht]
    refine mc_block ?_
    refine mc_for (S27 t l.length l) l.length (fun _ => rfl) ?_ rfl ?_ ?_
    · refine sub_forget rfl rfl ?_ ?_ <;> simp -implicitDefEqProofs [S27, iv, cntUpTo]
    · intro j hj
      refine mc_runs ctx6 ?_
      obtain ⟨x, hx⟩ : ∃ x, l[j]? = some x := ⟨_, List.getElem?_eq_getElem hj⟩
      have e1 : IntKind.i64.wrap ((j : Int) + 1) = ((j + 1 : Nat) : Int) := wrap_nat (by omega) (by omega)
      have c1 := cntUpTo_succ hx
      have c2 := cntUpTo_le l (j + 1)
      have e2 : IntKind.i64.wrap ((cntUpTo l j : Int) + (popc x.toNat : Int)) = (cntUpTo l (j + 1) : Int) := wrap_nat (by omega) (by omega)
      have h1 := iaddr_dec ht .i64 j (by omega) (by omega)
      simp only [Int.toNat_natCast] at h1
      simp -implicitDefEqProofs [S27, iv, hj, h1, load_drop _ hx, tb6, gOnes_uv, onesT_eq, e1, e2]
      refine sub_forget rfl rfl ?_ ?_ <;> simp -implicitDefEqProofs
    · refine mc_runs ctx6 ?_
      simp -implicitDefEqProofs [S27, iv]
      exact Next.mk () trivial (sub_forget rfl rfl (by simp -implicitDefEqProofs) (by simp -implicitDefEqProofs))
  · rintro _ -
    refine mc_runs ctx6 ?_
    simp -implicitDefEqProofs [S27, iv, cntUpTo_all]

/-! The document's List. -/
def els (l : List W) (n : Nat) : List Int := ((List.range n).filter (hasL l)).map Int.ofNat
theorem els_succ (l : List W) (n : Nat) : els l (n + 1) = els l n ++ (if hasL l n then [(n : Int)] else []) := by
  unfold els
  rw [List.range_succ, List.filter_append, List.map_append]
  cases h : hasL l n <;> simp [h]
theorem els_len (l : List W) (n : Nat) : (els l n).length ≤ n := by
  unfold els
  rw [List.length_map]
  exact Nat.le_trans (List.length_filter_le _ _) (by simp)

def tb7 : Tbl := [(22, gHas)]
theorem ctx7 : Ctx Tryd.prog G (orc tb7) := (TblOK.cons (gHas_ok rhas_call rhas_neg) TblOK.nil).ctx mixed

def S14 (t : T) (l : List W) (j : Nat) : AState := ⟨[(4, .t (iv j)), (3, rowL (els l j)), (0, .t t)], heapL 3 iv (els l j), 2 * (els l j).length, 20⟩

theorem rlist_call {t : T} {l : List W} (ht : decB t = some l) (hl : l.length ≤ 1000) : CallT Tryd.prog G 14 [t] (· = treeL iv (els l (64 * l.length))) := by
  refine k14.call rfl ?_
  unfold M14
  refine mc_seq_runs ctx7 ?_
  simp -implicitDefEqProofs
  refine mc_seq_runs ctx7 ?_
  simp -implicitDefEqProofs
  have em : IntKind.i64.wrap (64 * (l.length : Int)) = ((64 * l.length : Nat) : Int) := wrap_nat (by omega) (by omega)
  obtain ⟨n, hn⟩ : ∃ n, n = 64 * l.length := ⟨_, rfl⟩
  rw [← hn] at em ⊢
  refine mc_cut (fun _ : Unit => S14 t l n) (fun _ => True) (fun _ => rfl) ?_ ?_
  · refine mc_seq_runs ctx7 ?_
    simp -implicitDefEqProofs
    refine mc_block ?_
    refine mc_for (S14 t l) n (fun _ => rfl) ?_ rfl ?_ ?_
    · refine sub_forget rfl (by simp -implicitDefEqProofs [S14, els]) ?_ ?_ <;> simp -implicitDefEqProofs [S14, iv, els, rowL, heapL]
    · intro j hj
      refine mc_runs ctx7 ?_
      have e1 : IntKind.i64.wrap ((j : Int) + 1) = ((j + 1 : Nat) : Int) := wrap_nat (by omega) (by omega)
      have h1 := gHas_nat ht j (by omega)
      have hlen := els_len l j
      have hs := els_succ l j
      by_cases hh : hasL l j = true
      · rw [if_pos hh] at hs
        have ap := app_L 3 iv (els l j) (j : Int) (by omega)
        rw [← hs] at ap
        have fj : fillP (fun i => some (i, 1)) [.t (.v (.int .i64 0))] [(0, .t (.v (.int .i64 (j : Int))))] = some [.t (iv j)] := rfl
        simp -implicitDefEqProofs [S14, iv, hj, len_dec ht, em, h1, tb7, hh, bsliceM, zeros, fj, e1]
        simp -implicitDefEqProofs [iv] at ap
        simp -implicitDefEqProofs [ap]
        exact sub_forget rfl rfl (by simp -implicitDefEqProofs [e1]) (heapL_look _ _ _ _)
      · have hh' : hasL l j = false := by simpa using hh
        rw [if_neg hh, List.append_nil] at hs
        simp -implicitDefEqProofs [S14, iv, hj, len_dec ht, em, h1, tb7, hh', e1, hs]
        exact sub_forget rfl rfl (by simp -implicitDefEqProofs [e1]) (heapL_look' _ _ _)
    · refine mc_runs ctx7 ?_
      simp -implicitDefEqProofs [S14, iv, len_dec ht, em]
      exact Next.mk () trivial (sub_forget rfl rfl (by simp -implicitDefEqProofs) (heapL_look' _ _ _))
  · rintro _ -
    refine mc_runs ctx7 ?_
    have tt := toT_L 3 iv (els l n)
    simp -implicitDefEqProofs [S14, tt]
end Go.Proofs.YtlebaobbjehaeaaDoor
