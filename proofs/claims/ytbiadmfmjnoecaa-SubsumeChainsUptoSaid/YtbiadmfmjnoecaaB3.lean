/-
  Strings: equal, less. No statement of the program stands here.
-/
import Derived.Test.YtbiadmfmjnoecaaB2
namespace Go.Abs
set_option linter.unusedSimpArgs false
set_option linter.unusedVariables false
open Go

theorem toList_loop (bs : ByteArray) : ∀ (n i : Nat) (r : List UInt8), bs.size - i = n → ByteArray.toList.loop bs i r = r.reverse ++ bs.data.toList.drop i
  | 0, i, r, h => by
    unfold ByteArray.toList.loop
    have hi : ¬ i < bs.size := by omega
    have hs : bs.data.toList.length = bs.size := rfl
    rw [if_neg hi, List.drop_eq_nil_of_le (by omega)]
    simp
  | n + 1, i, r, h => by
    unfold ByteArray.toList.loop
    have hi : i < bs.size := by omega
    rw [if_pos hi, toList_loop bs n (i + 1) _ (by omega)]
    have hs : bs.data.toList.length = bs.size := rfl
    have hl : i < bs.data.toList.length := by omega
    rw [List.drop_eq_getElem_cons hl, List.reverse_cons, List.append_assoc]
    congr 2
    have hl' : i < bs.data.size := by simpa using hl
    show bs.data[i]! :: _ = _
    rw [getElem!_pos bs.data i hl']
    rfl

theorem toList_data (bs : ByteArray) : bs.toList = bs.data.toList := by
  unfold ByteArray.toList
  rw [toList_loop bs bs.size 0 [] (by omega)]
  simp

theorem toList_inj {a b : ByteArray} (h : a.toList = b.toList) : a = b := by
  rw [toList_data, toList_data] at h
  cases a; cases b
  congr
  exact Array.toList_inj.1 h

theorem str_beq (a b : ByteArray) : (a.toList == b.toList) = decide (a = b) := by
  by_cases h : a = b
  · subst h; simp
  · rw [decide_eq_false h, beq_eq_false_iff_ne]
    exact fun e => h (toList_inj e)

theorem size_toList (a : ByteArray) : a.toList.length = a.size := by rw [toList_data]; rfl

/-- The order of strings. -/
def lessS (a b : ByteArray) : Bool := Op.bytesLess a.toList b.toList
theorem less_def (a b : ByteArray) : Op.bytesLess a.toList b.toList = lessS a b := rfl

@[simp] theorem evalK_slss {Φ : Oracle} {H : Heap} {nx : Nat} (isB : Bool) (nk : Option NK) (a b : ByteArray) : evalK Φ H nx (.bin isB .lss nk) [.t (.v (.string a)), .t (.v (.string b))] = some (.t (.v (.bool (lessS a b))), H, nx) := rfl
theorem evalK_sadd {Φ : Oracle} {H : Heap} {nx : Nat} (isB : Bool) (nk : Option NK) (a b : ByteArray) (h : a.size + b.size ≤ 9223372036854775807) : evalK Φ H nx (.bin isB .add nk) [.t (.v (.string a)), .t (.v (.string b))] = some (.t (.v (.string (a ++ b))), H, nx) := by simp [evalK, binM, h]

theorem bl_irrefl : ∀ l : List UInt8, Op.bytesLess l l = false
  | [] => rfl
  | x :: l => by
    have := bl_irrefl l
    simp [Op.bytesLess, this]

theorem bl_trans : ∀ {a b c : List UInt8}, Op.bytesLess a b = true → Op.bytesLess b c = true → Op.bytesLess a c = true
  | [], [], c, h, _ => by simp [Op.bytesLess] at h
  | [], _ :: _, [], _, h => by simp [Op.bytesLess] at h
  | [], _ :: _, _ :: _, _, _ => by simp [Op.bytesLess]
  | _ :: _, [], _, h, _ => by simp [Op.bytesLess] at h
  | _ :: _, _ :: _, [], _, h => by simp [Op.bytesLess] at h
  | x :: a, y :: b, z :: c, h, h' => by
    simp only [Op.bytesLess, Bool.or_eq_true, Bool.and_eq_true, decide_eq_true_eq, beq_iff_eq] at h h' ⊢
    rcases h with h | ⟨rfl, h⟩
    · rcases h' with h' | ⟨rfl, h'⟩
      · exact .inl (UInt8.lt_trans h h')
      · exact .inl h
    · rcases h' with h' | ⟨rfl, h'⟩
      · exact .inl h'
      · exact .inr ⟨rfl, bl_trans h h'⟩

theorem bl_total : ∀ (a b : List UInt8), Op.bytesLess a b = false → a ≠ b → Op.bytesLess b a = true
  | [], [], _, h => absurd rfl h
  | [], _ :: _, h, _ => by simp [Op.bytesLess] at h
  | _ :: _, [], _, _ => by simp [Op.bytesLess]
  | x :: a, y :: b, h, hne => by
    simp only [Op.bytesLess, Bool.or_eq_false_iff, Bool.and_eq_false_iff, decide_eq_false_iff_not, beq_eq_false_iff_ne, Bool.or_eq_true, Bool.and_eq_true, decide_eq_true_eq, beq_iff_eq] at h ⊢
    by_cases e : x = y
    · subst e
      rcases h.2 with h2 | h2
      · exact absurd rfl h2
      · exact .inr ⟨rfl, bl_total a b h2 (fun e => hne (by rw [e]))⟩
    · left
      rcases UInt8.lt_or_lt_of_ne e with h1 | h1
      · exact absurd h1 h.1
      · exact h1

theorem less_irrefl (a : ByteArray) : lessS a a = false := bl_irrefl _
theorem less_trans {a b c : ByteArray} (h : lessS a b = true) (h' : lessS b c = true) : lessS a c = true := bl_trans h h'
theorem less_total {a b : ByteArray} (h : lessS a b = false) (hne : a ≠ b) : lessS b a = true := bl_total _ _ h fun e => hne (toList_inj e)
theorem less_asymm {a b : ByteArray} (h : lessS a b = true) : lessS b a = false := by
  cases h' : lessS b a with
  | false => rfl
  | true => rw [← less_irrefl a]; exact (less_trans h h').symm

/-- A loop that looks for the first place. -/
theorem first_bad (p : Nat → Bool) : ∀ n, (∀ i, i < n → p i = true) ∨ ∃ k, k < n ∧ (∀ i, i < k → p i = true) ∧ p k = false
  | 0 => .inl fun i hi => by omega
  | n + 1 => by
    rcases first_bad p n with h | ⟨k, h1, h2⟩
    · cases hn : p n with
      | true =>
        refine .inl fun i hi => ?_
        by_cases e : i = n
        · subst e; exact hn
        · exact h i (by omega)
      | false => exact .inr ⟨n, by omega, h, hn⟩
    · exact .inr ⟨k, by omega, h2⟩

/-- The same over a list. -/
theorem first_in {α : Type} (p : α → Bool) (l : List α) : (∀ x ∈ l, p x = false) ∨ ∃ (k : Nat) (x : α), l[k]? = some x ∧ p x = true ∧ ∀ (i : Nat) y, i < k → l[i]? = some y → p y = false := by
  rcases first_bad (fun i => !((l[i]?).any p)) l.length with h | ⟨k, hk, h1, h2⟩
  · left
    intro x hx
    obtain ⟨i, hi, e⟩ := List.getElem_of_mem hx
    have := h i hi
    rw [List.getElem?_eq_getElem hi, e] at this
    simpa using this
  · right
    refine ⟨k, l[k], List.getElem?_eq_getElem hk, ?_, fun j y hj hy => ?_⟩
    · rw [List.getElem?_eq_getElem hk] at h2
      simpa using h2
    · have := h1 j hj
      rw [hy] at this
      simpa using this

theorem findIdx_not {α : Type} {p : α → Bool} {l : List α} {j : Nat} {y : α} (h : j < l.findIdx p) (hy : l[j]? = some y) : p y = false := by
  have hj : j < l.length := (List.getElem?_eq_some_iff.1 hy).1
  have := List.not_of_lt_findIdx h
  rw [(List.getElem?_eq_some_iff.1 hy).2] at this
  simpa using this
theorem findIdx_hit {α : Type} {p : α → Bool} {l : List α} (h : l.findIdx p < l.length) : ∃ x, l[l.findIdx p]? = some x ∧ p x = true :=
  ⟨l[l.findIdx p], List.getElem?_eq_getElem h, List.findIdx_getElem⟩
theorem findIdx_le {α : Type} (p : α → Bool) (l : List α) : l.findIdx p ≤ l.length := List.findIdx_le_length
theorem findIdx_none {α : Type} {p : α → Bool} {l : List α} (h : l.findIdx p = l.length) : ∀ x ∈ l, p x = false := by
  intro x hx
  obtain ⟨i, hi, e⟩ := List.getElem_of_mem hx
  have := findIdx_not (p := p) (l := l) (j := i) (y := x) (by omega) (by rw [List.getElem?_eq_getElem hi, e])
  exact this

/-! Appending, whatever the numbers. -/
section
variable {α : Type}
theorem app_some {e : Enc α} {ty by' : Nat} {H : Heap} {nx b : Nat} {l m : List α} {src : PV} (h : RowAt e ty H b l) (hs : srcP H e.z src = some (m.length, (m.flatMap e.enc).map .t))
    (hb : (l.length + m.length) * by' ≤ 140737488355328) (hb2 : l.length + m.length ≤ 9223372036854775807) :
    ∃ b' H' nx', appM ty e.z by' H nx (rowP e b l) src = some (rowP e b' (l ++ m), H', nx') ∧ RowAt e ty H' b' (l ++ m) ∧ b' ≠ nx' ∧ nx ≤ nx' ∧ (∀ c, c ≠ b → c < nx → look H' c = look H c) ∧ nx ≤ b' := by
  have ap := app_row (nx := nx) h hs hb hb2
  by_cases he : l ++ m = []
  · refine ⟨nx + 1, appH e ty H nx b l m, appN nx l m, ?_, by rw [he]; exact RowAt.nil _ _ _ _, ?_, ?_, ?_, by omega⟩
    · rw [ap]
      have : ∀ b', rowP e b' (l ++ m) = .t nilS := by intro b'; rw [he]; rfl
      rw [this, this]
    · unfold appN; rw [he]; simp
    · unfold appN; rw [he]; simp
    · intro c hc hlt
      unfold appH; rw [he]; simp
  · have hne : (l ++ m).isEmpty = false := by
      cases hx : l ++ m with
      | nil => exact absurd hx he
      | cons _ _ => rfl
    refine ⟨nx, appH e ty H nx b l m, appN nx l m, ap, RowAt.app, ?_, ?_, ?_, Nat.le_refl _⟩
    · unfold appN; rw [hne]; simp
    · unfold appN; rw [hne]; simp
    · intro c hc hlt
      exact look_appH (by omega) hc

variable {e : Enc α} {t : T} {l : List α}
theorem take_flat (e : Enc α) : ∀ (l : List α) (k : Nat), (l.flatMap e.enc).take (k * e.z) = (l.take k).flatMap e.enc
  | [], k => by simp
  | a :: l, 0 => by simp
  | a :: l, k + 1 => by
    rw [List.flatMap_cons, List.take_succ_cons, List.flatMap_cons, Nat.succ_mul, Nat.add_comm, ← e.len a, List.take_length_add_append, e.len a, take_flat e l k]
theorem drop_flat (e : Enc α) : ∀ (l : List α) (k : Nat), (l.flatMap e.enc).drop (k * e.z) = (l.drop k).flatMap e.enc
  | [], k => by simp
  | a :: l, 0 => by simp
  | a :: l, k + 1 => by
    rw [List.flatMap_cons, List.drop_succ_cons, Nat.succ_mul, Nat.add_comm, ← List.drop_drop, List.drop_left' (e.len a), drop_flat e l k]

theorem IsS.slice_to (h : IsS e t l) {k : Nat} (hk : k ≤ l.length) (ik : IntKind) : ∃ t', sliceM e.z (.t t) none (some (.t (.v (.int ik (k : Int))))) = some (.t t') ∧ IsS e t' (l.take k) := by
  rcases h with ⟨rfl, rfl⟩ | rfl
  · have : k = 0 := by simpa using hk
    subst this
    exact ⟨nilS, rfl, .inl ⟨rfl, rfl⟩⟩
  · refine ⟨slT e (l.take k), ?_, .inr rfl⟩
    have h0 : ¬ (k : Int) < 0 := by omega
    simp only [sliceM, slT, boundV]
    simp [hk, take_flat, Nat.min_eq_left hk]

theorem IsS.slice_from (h : IsS e t l) {k : Nat} (hk : k ≤ l.length) (ik : IntKind) : ∃ t', sliceM e.z (.t t) (some (.t (.v (.int ik (k : Int))))) none = some (.t t') ∧ IsS e t' (l.drop k) := by
  rcases h with ⟨rfl, rfl⟩ | rfl
  · have : k = 0 := by simpa using hk
    subst this
    exact ⟨nilS, rfl, .inl ⟨rfl, rfl⟩⟩
  · refine ⟨slT e (l.drop k), ?_, .inr rfl⟩
    simp only [sliceM, slT, boundV]
    have tk : List.take ((l.length - k) * e.z) ((l.drop k).flatMap e.enc) = (l.drop k).flatMap e.enc := List.take_of_length_le (by rw [length_flat]; simp)
    simp [hk, drop_flat, tk]
end
end Go.Abs
