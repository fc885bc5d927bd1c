/-
  Lists of words without zeros at the end. No program stands here.
-/
import Derived.Test.YtlebaobbjehaeaaDoorT5
namespace Go.Proofs.YtlebaobbjehaeaaDoor
set_option linter.unusedSimpArgs false
set_option linter.unusedVariables false
open Go Go.Abs

theorem normL_append_zero (l : List W) : normL (l ++ [0]) = normL l := by simp [normL]
theorem normL_append_pos (l : List W) {x : W} (h : x ≠ 0) : normL (l ++ [x]) = l ++ [x] := by
  have h' : (x == 0) = false := by simpa using h
  simp only [normL, List.reverse_append, List.reverse_cons, List.reverse_nil, List.nil_append, List.cons_append, List.dropWhile_cons, h', Bool.false_eq_true, if_false, List.reverse_reverse]

theorem rev_rec {p : List W → Prop} (h0 : p []) (h1 : ∀ l x, p l → p (l ++ [x])) (l : List W) : p l := by
  have : ∀ r : List W, p r.reverse := by
    intro r
    induction r with
    | nil => exact h0
    | cons x r ih => rw [List.reverse_cons]; exact h1 _ _ ih
  simpa using this l.reverse

theorem length_normL (l : List W) : (normL l).length ≤ l.length := by
  induction l using rev_rec with
  | h0 => simp [normL]
  | h1 l x ih =>
    by_cases h : x = 0
    · subst h; rw [normL_append_zero]; simp; omega
    · rw [normL_append_pos l h]; exact Nat.le_refl _

theorem wd_append (l m : List W) (i : Nat) : wd (l ++ m) i = if i < l.length then wd l i else wd m (i - l.length) := by
  simp only [wd, List.getD_eq_getElem?_getD, List.getElem?_append]
  split <;> rfl

theorem wd_ge {l : List W} {i : Nat} (h : l.length ≤ i) : wd l i = 0 := by simp [wd, h]

theorem wd_normL (l : List W) (i : Nat) : wd (normL l) i = wd l i := by
  induction l using rev_rec with
  | h0 => simp [normL]
  | h1 l x ih =>
    by_cases h : x = 0
    · subst h
      rw [normL_append_zero, ih, wd_append]
      split
      · rfl
      · rename_i hi
        rw [wd_ge (by omega)]
        cases i - l.length with
        | zero => rfl
        | succ k => rfl
    · rw [normL_append_pos l h]

/-- No zero at the end. -/
def Norm (l : List W) : Prop := l = [] ∨ wd l (l.length - 1) ≠ 0

theorem norm_normL (l : List W) : Norm (normL l) := by
  induction l using rev_rec with
  | h0 => exact .inl rfl
  | h1 l x ih =>
    by_cases h : x = 0
    · subst h; rw [normL_append_zero]; exact ih
    · rw [normL_append_pos l h]
      right
      simpa [wd] using h

theorem Norm.len_le {l m : List W} (hl : Norm l) (h : ∀ i, wd l i = wd m i) : l.length ≤ m.length := by
  rcases hl with rfl | hl
  · simp
  · by_cases hlt : m.length < l.length
    · exact absurd ((h _).trans (wd_ge (by omega))) hl
    · omega

theorem Norm.ext {l m : List W} (hl : Norm l) (hm : Norm m) (h : ∀ i, wd l i = wd m i) : l = m := by
  have e : l.length = m.length := Nat.le_antisymm (hl.len_le h) (hm.len_le fun i => (h i).symm)
  apply List.ext_getElem e
  intro i h1 h2
  have := h i
  simp only [wd, List.getD_eq_getElem?_getD, List.getElem?_eq_getElem h1, List.getElem?_eq_getElem h2, Option.getD_some] at this
  exact this

theorem normL_ext {l m : List W} (h : ∀ i, wd l i = wd m i) : normL l = normL m :=
  (norm_normL l).ext (norm_normL m) fun i => by rw [wd_normL, wd_normL, h]

theorem wd_upTo (f : Nat → W) (n i : Nat) : wd (upTo f n) i = if i < n then f i else 0 := by
  unfold wd upTo
  split
  · rename_i h; simp [h]
  · rename_i h; simp [h]

theorem wd_andL (l m : List W) (i : Nat) : wd (andL l m) i = wd l i &&& wd m i := by
  show wd (upTo _ _) i = _
  rw [wd_upTo]
  split
  · rfl
  · rename_i h
    by_cases h1 : l.length ≤ i
    · rw [wd_ge h1]; simp
    · rw [wd_ge (l := m) (by omega)]; simp

theorem wd_orL (l m : List W) (i : Nat) : wd (orL l m) i = wd l i ||| wd m i := by
  show wd (upTo _ _) i = _
  rw [wd_upTo]
  split
  · rfl
  · rename_i h
    rw [wd_ge (l := l) (by omega), wd_ge (l := m) (by omega)]; simp

theorem wd_minusL (l m : List W) (i : Nat) : wd (minusL l m) i = wd l i &&& ~~~ wd m i := by
  show wd (upTo _ _) i = _
  rw [wd_upTo]
  split
  · rfl
  · rename_i h
    rw [wd_ge (l := l) (by omega)]; simp

theorem rand_eq (l m : List W) : normL (upTo (fun i => wd l i &&& wd m i) l.length) = normL (andL l m) := normL_ext fun i => by
  rw [wd_andL, wd_upTo]
  split
  · rfl
  · rename_i h
    rw [wd_ge (l := l) (by omega)]; simp

theorem ror_eq (l m : List W) : normL (upTo (fun i => wd l i ||| wd m i) (max l.length m.length)) = normL (orL l m) := rfl
theorem rminus_eq (l m : List W) : normL (upTo (fun i => wd l i &&& ~~~ wd m i) l.length) = normL (minusL l m) := rfl

/-- A contract of a function of two sets. -/
def g2 (f : List W → List W → T) : List T → Option T
  | [a, b] => match decB a, decB b with
    | some l, some m => if l.length ≤ 1000 ∧ m.length ≤ 1000 then some (f l m) else none
    | _, _ => none
  | _ => none
theorem g2_ok {F : Nat} {f : List W → List W → T} (h : ∀ {a b : T} {l m : List W}, decB a = some l → decB b = some m → l.length ≤ 1000 → m.length ≤ 1000 → CallT Tryd.prog G F [a, b] (· = f l m)) : GOK Tryd.prog G F (g2 f) := by
  intro args r e
  unfold g2 at e
  split at e
  · split at e
    · rename_i l m ha hb
      split at e
      · rename_i hlm
        injection e with e; subst e
        exact h ha hb hlm.1 hlm.2
      · cases e
    · cases e
  · cases e
theorem g2_eq {f : List W → List W → T} {a b : T} {l m : List W} (ha : decB a = some l) (hb : decB b = some m) (hl : l.length ≤ 1000) (hm : m.length ≤ 1000) : g2 f [a, b] = some (f l m) := by
  simp [g2, ha, hb, hl, hm]

def fAnd (l m : List W) : T := encB (normL (andL l m))
def fOr (l m : List W) : T := encB (normL (orL l m))
def fMinus (l m : List W) : T := encB (normL (minusL l m))
def fSame (l m : List W) : T := .v (.bool (l == m))
def g0 : List T → Option T
  | [] => some (.v (.bool true))
  | _ => none
theorem example_ok : GOK Tryd.prog G 8 g0 := by
  intro args r e
  unfold g0 at e
  split at e
  · injection e with e; subst e; exact example_true
  · cases e

def tb4 : Tbl := [(8, g0), (11, g2 fSame), (15, g2 fAnd), (16, g2 fAnd), (17, g2 fOr), (18, g2 fOr), (19, g2 fMinus), (20, g2 fMinus)]
theorem tb4_ok : TblOK Tryd.prog G tb4 :=
  .cons example_ok <| .cons (g2_ok same_call) <| .cons (g2_ok and_call) <| .cons (g2_ok fun ha hb hl hm => (rand_call ha hb hl hm).mono fun _ h => h.trans (congrArg encB (rand_eq _ _))) <|
  .cons (g2_ok or_call) <| .cons (g2_ok ror_call) <| .cons (g2_ok minus_call) <| .cons (g2_ok rminus_call) .nil
theorem ctx4 : Ctx Tryd.prog G (orc tb4) := tb4_ok.ctx mixed
theorem len_and (l m : List W) (h : l.length ≤ 1000) : (normL (andL l m)).length ≤ 1000 := Nat.le_trans (length_normL _) (by simp [andL]; omega)
theorem len_or (l m : List W) (h : l.length ≤ 1000) (h' : m.length ≤ 1000) : (normL (orL l m)).length ≤ 1000 := Nat.le_trans (length_normL _) (by simp [orL]; omega)
theorem len_minus (l m : List W) (h : l.length ≤ 1000) : (normL (minusL l m)).length ≤ 1000 := Nat.le_trans (length_normL _) (by simp [minusL]; omega)
end Go.Proofs.YtlebaobbjehaeaaDoor
