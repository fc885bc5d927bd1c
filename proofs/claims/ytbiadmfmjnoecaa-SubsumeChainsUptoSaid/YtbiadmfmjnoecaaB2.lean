/-
  Slices that a body appends to: whatever the number of their row ('RowAt', 'appH'). No statement of the program stands here.
-/
import Derived.Test.YtbiadmfmjnoecaaB1
namespace Go.Abs
set_option linter.unusedSimpArgs false
set_option linter.unusedVariables false
open Go

section
variable {α : Type} {P : Program} {G : Globs} {B : Nat}

def rowOf (e : Enc α) (ty : Nat) (l : List α) : Row := .cells ty ((l.flatMap e.enc).map .t)

/-- Row b holds l, if there is anything to hold. -/
def RowAt (e : Enc α) (ty : Nat) (H : Heap) (b : Nat) (l : List α) : Prop := l = [] ∨ look H b = some (rowOf e ty l)

theorem RowAt.nil (e : Enc α) (ty : Nat) (H : Heap) (b : Nat) : RowAt e ty H b [] := .inl rfl
theorem RowAt.cons {e : Enc α} {ty : Nat} {H : Heap} {b : Nat} {l : List α} (h : RowAt e ty H b l) {k : Nat} {r : Row} (hk : k ≠ b) : RowAt e ty ((k, r) :: H) b l :=
  h.imp id fun h => by rw [look_cons, if_neg hk]; exact h
theorem RowAt.head (e : Enc α) (ty : Nat) (H : Heap) (b : Nat) (l : List α) : RowAt e ty (rowH e ty b l ++ H) b l := by
  cases l with
  | nil => exact .inl rfl
  | cons x r => right; simp [rowH, rowOf]

theorem RowAt.head' (e : Enc α) (ty b : Nat) (l : List α) : RowAt e ty (rowH e ty b l) b l := by
  have h := RowAt.head e ty [] b l
  rwa [List.append_nil] at h

/-- The rows behind an append. -/
def appH (e : Enc α) (ty : Nat) (H : Heap) (nx b : Nat) (l m : List α) : Heap :=
  if (l ++ m).isEmpty then H else (nx, rowOf e ty (l ++ m)) :: (if l.isEmpty then H else rem H b)
def appN (nx : Nat) (l m : List α) : Nat := if (l ++ m).isEmpty then nx else nx + 1

theorem app_row {e : Enc α} {ty by' : Nat} {H : Heap} {nx b : Nat} {l m : List α} {src : PV} (h : RowAt e ty H b l) (hs : srcP H e.z src = some (m.length, (m.flatMap e.enc).map .t))
    (hb : (l.length + m.length) * by' ≤ 140737488355328) (hb2 : l.length + m.length ≤ 9223372036854775807) :
    appM ty e.z by' H nx (rowP e b l) src = some (rowP e nx (l ++ m), appH e ty H nx b l m, appN nx l m) := by
  cases l with
  | nil =>
    cases m with
    | nil => simp [appM, hs, rowP, appH, appN]
    | cons y m =>
      simp only [List.length_nil, Nat.zero_add] at hb hb2
      have h0 : ¬ (y :: m).length = 0 := by simp
      simp only [appM, hs, rowP, List.nil_append, appH, appN, List.isEmpty_cons, List.isEmpty_nil, Bool.false_eq_true, if_false, if_true, and_self, h0, hb, hb2, rowOf]
  | cons x l =>
    rcases h with h | h
    · cases h
    · have hl : (((x :: l).flatMap e.enc).map PV.t).length = (x :: l).length * e.z := by rw [List.length_map, length_flat]
      simp only [appM, hs, rowP, h, rowOf, hl, true_and, if_pos (And.intro hb hb2), List.cons_append, appH, appN, List.isEmpty_cons, Bool.false_eq_true, if_false]
      simp
      omega

theorem look_appH {e : Enc α} {ty : Nat} {H : Heap} {nx b : Nat} {l m : List α} {c : Nat} (hc : c ≠ nx) (hb : c ≠ b) : look (appH e ty H nx b l m) c = look H c := by
  unfold appH
  split
  · rfl
  · rw [look_cons, if_neg (Ne.symm hc)]
    split
    · rfl
    · rw [look_rem, if_neg hb]

theorem RowAt.app {e : Enc α} {ty : Nat} {H : Heap} {nx b : Nat} {l m : List α} : RowAt e ty (appH e ty H nx b l m) nx (l ++ m) := by
  unfold appH
  split
  · rename_i h; left; simpa using h
  · right; rw [look_cons, if_pos rfl]

theorem RowAt.other {β : Type} {e : Enc α} {e' : Enc β} {ty ty' : Nat} {H : Heap} {nx b c : Nat} {l m : List α} {k : List β} (h : RowAt e' ty' H c k) (hc : c ≠ nx) (hb : c ≠ b) : RowAt e' ty' (appH e ty H nx b l m) c k :=
  h.imp id fun h => by rw [look_appH hc hb]; exact h

theorem RowAt.toT {e : Enc α} {ty : Nat} {H : Heap} {b : Nat} {l : List α} (h : RowAt e ty H b l) : toT H (rowP e b l) = some (treeS e l, lentS b l) := by
  cases l with
  | nil => rfl
  | cons x r =>
    rcases h with h | h
    · cases h
    · have hl : (((x :: r).flatMap e.enc).map PV.t).length = (x :: r).length * e.z := by rw [List.length_map, length_flat]
      have tk : List.take ((x :: r).length * e.z) (((x :: r).flatMap e.enc).map PV.t) = ((x :: r).flatMap e.enc).map PV.t := List.take_of_length_le (by rw [hl]; exact Nat.le_refl _)
      simp only [rowP, Abs.toT, h, rowOf, List.drop_zero, Nat.zero_add, hl, Nat.le_refl, if_true, tk, allT_map_t, Option.map_some]
      rfl

theorem len_rowP (e : Enc α) (b : Nat) (l : List α) : lenslM (rowP e b l) = some (.t (iv (l.length : Int))) := by cases l <;> rfl

/-- One element behind a row. -/
theorem src_one {e : Enc α} {H : Heap} {b ty : Nat} (x : α) (h : look H b = some (.cells ty ((e.enc x).map .t))) : srcP H e.z (.row b 0 1 e.z) = some ([x].length, ([x].flatMap e.enc).map .t) := by
  have hl : ((e.enc x).map PV.t).length = e.z := by rw [List.length_map, e.len]
  have tk : List.take e.z ((e.enc x).map PV.t) = (e.enc x).map PV.t := List.take_of_length_le (by rw [hl]; exact Nat.le_refl _)
  simp [srcP, h, e.len, tk]

theorem src_tree {e : Enc α} {H : Heap} {t : T} {l : List α} (h : IsS e t l) : srcP H e.z (.t t) = some (l.length, (l.flatMap e.enc).map .t) := by
  rcases h with ⟨rfl, rfl⟩ | rfl
  · rfl
  · simp only [srcP, slT, length_flat, if_true]

/-! Loop heads: one row, two rows, under numbers of their own. -/

/-- Rows as they are told at a loop's head. -/
theorem renRow_rowOf (σ : Nat → Nat) (e : Enc α) (ty : Nat) (l : List α) : renRow σ (rowOf e ty l) = rowOf e ty l := by
  have : ∀ m : List T, renL σ (m.map .t) = m.map .t := by
    intro m
    induction m with
    | nil => rfl
    | cons x m ih => simp only [List.map_cons, renL, ren, ih]
  simp only [rowOf, renRow, this]
theorem underRow_rowOf (n : Nat) (e : Enc α) (ty : Nat) (l : List α) : underRow n (rowOf e ty l) = true := by
  have : ∀ m : List T, underL n (m.map .t) = true := by
    intro m
    induction m with
    | nil => rfl
    | cons x m ih => simp only [List.map_cons, underL, under, ih, Bool.and_self]
  simp only [rowOf, underRow, this]

theorem mem_rowH {e : Enc α} {ty b : Nat} {l : List α} {q : Nat × Row} (h : q ∈ rowH e ty b l) : l ≠ [] ∧ q = (b, rowOf e ty l) := by
  cases l with
  | nil => simp [rowH] at h
  | cons x r => simp only [rowH, List.mem_singleton] at h; exact ⟨by simp, h⟩

/-- To a loop's head with one row, whose number there is b and was k. -/
theorem sub_row1 {e : Enc α} {ty b k nx nx' n : Nat} {l : List α} {env env' : List (Nat × PV)} {H : Heap} (h : RowAt e ty H k l) (hb : b < nx') (hB : B ≤ b)
    (he : ∀ q ∈ env', look env q.1 = some (ren (fun c => if c = b then k else c) q.2) ∧ under nx' q.2 = true) :
    Sub P G B ⟨env, H, nx, n⟩ ⟨env', rowH e ty b l, nx', n⟩ := by
  refine sub_ren (fun c => if c = b then k else c) rfl (by show B ≤ nx'; omega) (fun c hc => by show (if c = b then k else c) = c; rw [if_neg (by omega)]) he (fun q hq => ?_) (fun q hq q' hq' _ => ?_)
  · obtain ⟨hne, rfl⟩ := mem_rowH hq
    simp only [if_true, renRow_rowOf, underRow_rowOf]
    rcases h with h | h
    · exact absurd h hne
    · exact ⟨h, hb, trivial⟩
  · obtain ⟨_, rfl⟩ := mem_rowH hq
    obtain ⟨_, rfl⟩ := mem_rowH hq'
    rfl

theorem sub_row2 {β : Type} {e : Enc α} {e' : Enc β} {ty ty' b b' k k' nx nx' n : Nat} {l : List α} {l' : List β} {env env' : List (Nat × PV)} {H : Heap} (h : RowAt e ty H k l) (h' : RowAt e' ty' H k' l') (hb : b < nx') (hb' : b' < nx') (hB : B ≤ b) (hB' : B ≤ b')
    (hne : b ≠ b') (hk : k ≠ k') (he : ∀ q ∈ env', look env q.1 = some (ren (fun c => if c = b then k else if c = b' then k' else c) q.2) ∧ under nx' q.2 = true) :
    Sub P G B ⟨env, H, nx, n⟩ ⟨env', rowH e ty b l ++ rowH e' ty' b' l', nx', n⟩ := by
  refine sub_ren (fun c => if c = b then k else if c = b' then k' else c) rfl (by show B ≤ nx'; omega) (fun c hc => by show (if c = b then k else if c = b' then k' else c) = c; rw [if_neg (by omega), if_neg (by omega)]) he (fun q hq => ?_) (fun q hq q' hq' hx => ?_)
  · rcases List.mem_append.1 hq with hq | hq
    · obtain ⟨hn, rfl⟩ := mem_rowH hq
      simp only [if_true, renRow_rowOf, underRow_rowOf]
      rcases h with h | h
      · exact absurd h hn
      · exact ⟨h, hb, trivial⟩
    · obtain ⟨hn, rfl⟩ := mem_rowH hq
      simp only [if_neg (Ne.symm hne), if_true, renRow_rowOf, underRow_rowOf]
      rcases h' with h' | h'
      · exact absurd h' hn
      · exact ⟨h', hb', trivial⟩
  · rcases List.mem_append.1 hq with hq | hq <;> rcases List.mem_append.1 hq' with hq' | hq'
    · obtain ⟨_, rfl⟩ := mem_rowH hq
      obtain ⟨_, rfl⟩ := mem_rowH hq'
      rfl
    · obtain ⟨_, rfl⟩ := mem_rowH hq
      obtain ⟨_, rfl⟩ := mem_rowH hq'
      simp only [if_true, if_neg (Ne.symm hne)] at hx
      exact absurd hx hk
    · obtain ⟨_, rfl⟩ := mem_rowH hq
      obtain ⟨_, rfl⟩ := mem_rowH hq'
      simp only [if_true, if_neg (Ne.symm hne)] at hx
      exact absurd hx.symm hk
    · obtain ⟨_, rfl⟩ := mem_rowH hq
      obtain ⟨_, rfl⟩ := mem_rowH hq'
      rfl

/-- To a loop's head without rows. -/
theorem sub_row0 {nx nx' n : Nat} {env env' : List (Nat × PV)} {H : Heap} (hB : B ≤ nx') (he : ∀ q ∈ env', look env q.1 = some q.2 ∧ under 0 q.2 = true) :
    Sub P G B ⟨env, H, nx, n⟩ ⟨env', [], nx', n⟩ := by
  have key : ∀ (p : PV), under 0 p = true → ren id p = p ∧ under nx' p = true := by
    intro p hp
    constructor
    · have : (∀ p : PV, ren id p = p) ∧ (∀ ps : List PV, renL id ps = ps) := by
        constructor
        · intro p
          exact PV.rec (motive_1 := fun p => ren id p = p) (motive_2 := fun ps => renL id ps = ps) (fun x => rfl) (fun b o n z => rfl) (fun b o => rfl) (fun cs ih => by simp only [ren, ih]) (fun cs ih => by simp only [ren, ih])
            (fun f a c ih1 ih2 => by simp only [ren, ih1, ih2]) (fun t x ih => by simp only [ren, ih]) (fun b => rfl) rfl rfl (fun p ps h1 h2 => by simp only [renL, h1, h2]) p
        · intro ps
          exact PV.rec_1 (motive_1 := fun p => ren id p = p) (motive_2 := fun ps => renL id ps = ps) (fun x => rfl) (fun b o n z => rfl) (fun b o => rfl) (fun cs ih => by simp only [ren, ih]) (fun cs ih => by simp only [ren, ih])
            (fun f a c ih1 ih2 => by simp only [ren, ih1, ih2]) (fun t x ih => by simp only [ren, ih]) (fun b => rfl) rfl rfl (fun p ps h1 h2 => by simp only [renL, h1, h2]) ps
      exact this.1 p
    · exact (PV.rec (motive_1 := fun p => under 0 p = true → under nx' p = true) (motive_2 := fun ps => underL 0 ps = true → underL nx' ps = true) (fun x _ => rfl) (fun b o n z h => by simp [under] at h) (fun b o h => by simp [under] at h)
        (fun cs ih h => by simp only [under] at h ⊢; exact ih h) (fun cs ih h => by simp only [under] at h ⊢; exact ih h) (fun f a c ih1 ih2 h => by simp only [under, Bool.and_eq_true] at h ⊢; exact ⟨ih1 h.1, ih2 h.2⟩)
        (fun t x ih h => by simp only [under] at h ⊢; exact ih h) (fun b h => by simp [under] at h) (fun _ => rfl) (fun _ => rfl) (fun p ps h1 h2 h => by simp only [underL, Bool.and_eq_true] at h ⊢; exact ⟨h1 h.1, h2 h.2⟩) p) hp
  refine sub_ren id rfl hB (fun _ _ => rfl) (fun q hq => ?_) (fun q hq => by simp at hq) (fun q hq => by simp at hq)
  obtain ⟨h1, h2⟩ := he q hq
  obtain ⟨h3, h4⟩ := key q.2 h2
  rw [h3]
  exact ⟨h1, h4⟩
end
end Go.Abs
