/-
  Tokens are scanned alike wherever they stand. No statement of the program stands here.
  Scanning what is written, and two sources behind each other. No statement of the program stands here.
-/
import Derived.Test.YtbabdjhikamkoaaDoorQ16
namespace Go.Proofs.YtbabdjhikamkoaaDoor
set_option linter.unusedSimpArgs false
set_option linter.unusedVariables false
open Go Go.Abs

/-- What may stand behind a token: nothing, a space, a line feed. -/
def Sep (X : List UInt8) : Prop := ∀ c r, X = c :: r → c.toNat = 32 ∨ c.toNat = 10

theorem tw_sep {p : UInt8 → Bool} (hp : ∀ c : UInt8, c.toNat = 32 ∨ c.toNat = 10 → p c = false) {X : List UInt8} (h : Sep X) : ∀ D : List UInt8, (D ++ X).takeWhile p = D.takeWhile p
  | [] => by
    cases X with
    | nil => rfl
    | cons c r => rw [List.nil_append, List.takeWhile_cons, if_neg (by rw [hp c (h c r rfl)]; simp)]; rfl
  | c :: D => by
    rw [List.cons_append, List.takeWhile_cons, List.takeWhile_cons, tw_sep hp h D]
theorem tw_take {p : UInt8 → Bool} : ∀ D : List UInt8, (D.take (D.takeWhile p).length).takeWhile p = D.takeWhile p
  | [] => rfl
  | c :: D => by
    by_cases h : p c = true
    · rw [List.takeWhile_cons, if_pos h, List.length_cons, List.take_succ_cons, List.takeWhile_cons, if_pos h, tw_take D]
    · rw [List.takeWhile_cons, if_neg h]; rfl
theorem tw_mem {p : UInt8 → Bool} : ∀ {D : List UInt8} {c : UInt8}, c ∈ D.takeWhile p → p c = true
  | [], c, h => by simp at h
  | x :: D, c, h => by
    rw [List.takeWhile_cons] at h
    split at h
    · rename_i hx
      rcases List.mem_cons.1 h with e | e
      · rw [e]; exact hx
      · exact tw_mem e
    · simp at h
theorem tw_eq_take {p : UInt8 → Bool} : ∀ D : List UInt8, D.take (D.takeWhile p).length = D.takeWhile p
  | [] => rfl
  | c :: D => by
    by_cases h : p c = true
    · rw [List.takeWhile_cons, if_pos h, List.length_cons, List.take_succ_cons, tw_eq_take D]
    · rw [List.takeWhile_cons, if_neg h]; rfl

theorem part_sep (big : Bool) (c : UInt8) (h : c.toNat = 32 ∨ c.toNat = 10) : isPart big c = false := by
  unfold isPart isDig isUp isLow
  rcases h with h | h <;> rw [h] <;> cases big <;> rfl
theorem dig_sep (c : UInt8) (h : c.toNat = 32 ∨ c.toNat = 10) : isDig c = false := by
  unfold isDig
  rcases h with h | h <;> rw [h] <;> rfl

theorem run_app (big : Bool) (D : List UInt8) {X : List UInt8} (h : Sep X) : runN big (D ++ X) = runN big D := by
  unfold runN; rw [tw_sep (part_sep big) h]
theorem run_take (big : Bool) (D : List UInt8) : runN big (D.take (runN big D)) = runN big D := by
  unfold runN; rw [tw_take]

theorem min_app (c : UInt8) (r X : List UInt8) : minN (c :: r ++ X) = minN (c :: r) := rfl
theorem min_le (c : UInt8) (r : List UInt8) : minN (c :: r) ≤ 1 := by unfold minN; split <;> omega
theorem fig_app (c : UInt8) (r : List UInt8) {X : List UInt8} (h : Sep X) : figN (c :: r ++ X) = figN (c :: r) := by
  unfold figN
  rw [min_app, List.drop_append_of_le_length (by have := min_le c r; simp; omega), tw_sep dig_sep h]
theorem fig_take (c : UInt8) (r : List UInt8) (h1 : 1 ≤ figN (c :: r)) : figN ((c :: r).take (figN (c :: r))) = figN (c :: r) := by
  obtain ⟨n, hn⟩ : ∃ n, figN (c :: r) = n + 1 := ⟨figN (c :: r) - 1, by omega⟩
  have hm : minN ((c :: r).take (figN (c :: r))) = minN (c :: r) := by rw [hn]; rfl
  have key : ((c :: r).take (figN (c :: r))).drop (minN (c :: r)) = ((c :: r).drop (minN (c :: r))).take (((c :: r).drop (minN (c :: r))).takeWhile isDig).length := by
    rw [List.drop_take]
    congr 1
    unfold figN
    omega
  have : figN ((c :: r).take (figN (c :: r))) = minN (c :: r) + (((c :: r).drop (minN (c :: r))).takeWhile isDig).length := by
    rw [figN, hm, key, tw_take]
  rw [this]; rfl

theorem quo_app : ∀ (D X : List UInt8), (quoN D).2 = 0 → quoN (D ++ X) = quoN D
  | [], X, h => by cases h
  | c :: D, X, h => by
    rw [List.cons_append]
    rw [quoN] at h ⊢
    rw [quoN]
    by_cases h1 : c.toNat = 34
    · rw [if_pos h1, if_pos h1]
    · rw [if_neg h1] at h ⊢
      rw [if_neg h1]
      by_cases h2 : prt c = true
      · rw [if_pos h2] at h ⊢
        rw [if_pos h2, quo_app D X h]
      · rw [if_neg h2] at h; cases h
theorem quo_take : ∀ D : List UInt8, (quoN D).2 = 0 → quoN (D.take ((quoN D).1 + 1)) = quoN D
  | [], h => by cases h
  | c :: D, h => by
    rw [quoN] at h
    by_cases h1 : c.toNat = 34
    · rw [quoN, if_pos h1, List.take_succ_cons, quoN, if_pos h1]
    · rw [if_neg h1] at h
      by_cases h2 : prt c = true
      · rw [if_pos h2] at h
        rw [quoN, if_neg h1, if_pos h2, List.take_succ_cons, quoN, if_neg h1, if_pos h2, quo_take D h]
      · rw [if_neg h2] at h; cases h
theorem quo_end : ∀ D : List UInt8, (quoN D).2 = 0 → D.take ((quoN D).1 + 1) = D.take (quoN D).1 ++ [34]
  | [], h => by cases h
  | c :: D, h => by
    rw [quoN] at h
    by_cases h1 : c.toNat = 34
    · have : c = 34 := UInt8.toNat_inj.1 h1
      rw [quoN, if_pos h1, this]; rfl
    · rw [if_neg h1] at h
      by_cases h2 : prt c = true
      · rw [if_pos h2] at h
        rw [quoN, if_neg h1, if_pos h2, List.take_succ_cons, List.take_succ_cons, quo_end D h]; rfl
      · rw [if_neg h2] at h; cases h
theorem quo_prt : ∀ (D : List UInt8), (quoN D).2 = 0 → ∀ c ∈ D.take (quoN D).1, prt c = true
  | [], h => by cases h
  | c :: D, h => by
    rw [quoN] at h
    by_cases h1 : c.toNat = 34
    · rw [quoN, if_pos h1]; intro x hx; simp at hx
    · rw [if_neg h1] at h
      by_cases h2 : prt c = true
      · rw [if_pos h2] at h
        rw [quoN, if_neg h1, if_pos h2, List.take_succ_cons]
        intro x hx
        rcases List.mem_cons.1 hx with e | e
        · rw [e]; exact h2
        · exact quo_prt D h x e
      · rw [if_neg h2] at h; cases h

theorem pre_two (a b c d : UInt8) (r : List UInt8) : Lib.hasPrefix (c :: d :: r) [a, b] = ((a == c) && (b == d)) := by
  simp [Lib.hasPrefix, List.isPrefixOf]
theorem pre_one (a b c : UInt8) : Lib.hasPrefix [c] [a, b] = false := by
  simp [Lib.hasPrefix, List.isPrefixOf]
theorem sym_two (c d : UInt8) (r : List UInt8) : symS (c :: d :: r) = if ((60 == c) && (33 == d)) || ((33 == c) && (62 == d)) then (2, 0) else if symC.contains c then (1, 0) else (0, 8) := by
  unfold symS
  rw [pre_two, pre_two]
  rfl
theorem sym_one (c : UInt8) : symS [c] = if symC.contains c then (1, 0) else (0, 8) := by
  unfold symS
  rw [pre_one, pre_one]
  rfl
theorem sym_app (c : UInt8) (r : List UInt8) {X : List UInt8} (h : Sep X) : symS (c :: r ++ X) = symS (c :: r) := by
  cases r with
  | nil =>
    cases X with
    | nil => rfl
    | cons x X =>
      have hx := h x X rfl
      have e : [c] ++ x :: X = c :: x :: X := rfl
      rw [e, sym_two, sym_one]
      have h1 : (33 == x) = false := by rw [beq_eq_false_iff_ne]; intro e; subst e; rcases hx with h | h <;> revert h <;> decide
      have h2 : (62 == x) = false := by rw [beq_eq_false_iff_ne]; intro e; subst e; rcases hx with h | h <;> revert h <;> decide
      rw [h1, h2]
      simp
  | cons d r =>
    have e : c :: d :: r ++ X = c :: d :: (r ++ X) := rfl
    rw [e, sym_two, sym_two]
theorem sym_take (c : UInt8) (r : List UInt8) (h : (symS (c :: r)).2 = 0) : symS ((c :: r).take (symS (c :: r)).1) = symS (c :: r) := by
  cases r with
  | nil =>
    rw [sym_one] at h ⊢
    split at h
    · rename_i hc
      rw [if_pos hc, List.take_succ_cons, List.take_zero, sym_one, if_pos hc]
    · cases h
  | cons d r =>
    rw [sym_two] at h ⊢
    split at h
    · rename_i hc
      rw [if_pos hc, List.take_succ_cons, List.take_succ_cons, List.take_zero, sym_two, if_pos hc]
    · rename_i hc
      rw [if_neg hc]
      split at h
      · rename_i hd
        rw [if_pos hd, List.take_succ_cons, List.take_zero, sym_one, if_pos hd]
      · cases h

theorem next_nil : nextS [] = ⟨0, [], 8, 0⟩ := rfl
theorem next_app (c : UInt8) (r : List UInt8) {X : List UInt8} (h : Sep X) (he : (nextS (c :: r)).e = 0) : nextS (c :: r ++ X) = nextS (c :: r) := by
  have hcons : c :: r ++ X = c :: (r ++ X) := rfl
  rw [nextS] at he
  have hL : nextS (c :: r ++ X) = if isLow c then ⟨1, (c :: r ++ X).take (runN false (c :: r ++ X)), if 32 < runN false (c :: r ++ X) then 7 else 0, runN false (c :: r ++ X)⟩
    else if isUp c then ⟨2, (c :: r ++ X).take (runN true (c :: r ++ X)), if 32 < runN true (c :: r ++ X) then 7 else 0, runN true (c :: r ++ X)⟩
    else if isDig c || decide (c.toNat = 45) then ⟨4, (c :: r ++ X).take (figN (c :: r ++ X)), figE ((c :: r ++ X).take (figN (c :: r ++ X))), figN (c :: r ++ X)⟩
    else if c.toNat = 34 then ⟨3, (r ++ X).take (quoN (r ++ X)).1, (quoN (r ++ X)).2, 1 + (quoN (r ++ X)).1 + (if (quoN (r ++ X)).2 = 0 then 1 else 0)⟩
    else ⟨5, (c :: r ++ X).take (symS (c :: r ++ X)).1, (symS (c :: r ++ X)).2, (symS (c :: r ++ X)).1⟩ := by
    rw [hcons, nextS]; rfl
  rw [hL, nextS]
  split
  · rename_i t1
    rw [run_app false _ h, List.take_append_of_le_length (runN_le _ _)]
  · rename_i t1
    rw [if_neg t1] at he
    split
    · rename_i t2
      rw [run_app true _ h, List.take_append_of_le_length (runN_le _ _)]
    · rename_i t2
      rw [if_neg t2] at he
      split
      · rename_i t3
        rw [fig_app c r h, List.take_append_of_le_length (figN_le _)]
      · rename_i t3
        rw [if_neg t3] at he
        split
        · rename_i t4
          rw [if_pos t4] at he
          have he' : (quoN r).2 = 0 := he
          have hq := quoN_le r
          rw [quo_app r X he', List.take_append_of_le_length hq.1]
          rfl
        · rename_i t4
          rw [if_neg t4] at he
          rw [sym_app c r h, List.take_append_of_le_length]
          have := (next_pos (c :: r) rfl (by rw [nextS, if_neg t1, if_neg t2, if_neg t3, if_neg t4]; exact he)).2
          rw [nextS, if_neg t1, if_neg t2, if_neg t3, if_neg t4] at this
          exact this

theorem next_take (c : UInt8) (r : List UInt8) (he : (nextS (c :: r)).e = 0) : nextS ((c :: r).take (nextS (c :: r)).n) = nextS (c :: r) := by
  obtain ⟨n1, n2⟩ := next_pos (c :: r) rfl he
  obtain ⟨n, hn⟩ : ∃ n, (nextS (c :: r)).n = n + 1 := ⟨(nextS (c :: r)).n - 1, by omega⟩
  have ht : (c :: r).take (nextS (c :: r)).n = c :: r.take n := by rw [hn]; rfl
  rw [ht]
  obtain ⟨D, hD⟩ : ∃ D, D = c :: r := ⟨_, rfl⟩
  have hD' : c :: r.take n = D.take (n + 1) := by rw [hD]; rfl
  have hL : nextS (c :: r.take n) = if isLow c then ⟨1, (D.take (n + 1)).take (runN false (D.take (n + 1))), if 32 < runN false (D.take (n + 1)) then 7 else 0, runN false (D.take (n + 1))⟩
    else if isUp c then ⟨2, (D.take (n + 1)).take (runN true (D.take (n + 1))), if 32 < runN true (D.take (n + 1)) then 7 else 0, runN true (D.take (n + 1))⟩
    else if isDig c || decide (c.toNat = 45) then ⟨4, (D.take (n + 1)).take (figN (D.take (n + 1))), figE ((D.take (n + 1)).take (figN (D.take (n + 1)))), figN (D.take (n + 1))⟩
    else if c.toNat = 34 then ⟨3, (r.take n).take (quoN (r.take n)).1, (quoN (r.take n)).2, 1 + (quoN (r.take n)).1 + (if (quoN (r.take n)).2 = 0 then 1 else 0)⟩
    else ⟨5, (D.take (n + 1)).take (symS (D.take (n + 1))).1, (symS (D.take (n + 1))).2, (symS (D.take (n + 1))).1⟩ := by
    rw [nextS, ← hD']; rfl
  have hR : nextS (c :: r) = if isLow c then ⟨1, D.take (runN false D), if 32 < runN false D then 7 else 0, runN false D⟩
    else if isUp c then ⟨2, D.take (runN true D), if 32 < runN true D then 7 else 0, runN true D⟩
    else if isDig c || decide (c.toNat = 45) then ⟨4, D.take (figN D), figE (D.take (figN D)), figN D⟩
    else if c.toNat = 34 then ⟨3, r.take (quoN r).1, (quoN r).2, 1 + (quoN r).1 + (if (quoN r).2 = 0 then 1 else 0)⟩
    else ⟨5, D.take (symS D).1, (symS D).2, (symS D).1⟩ := by
    rw [nextS, hD]; rfl
  rw [hR] at he hn ⊢
  rw [hL]
  split
  · rename_i t1
    rw [if_pos t1] at he hn
    have hn' : runN false D = n + 1 := hn
    rw [← hn', run_take, List.take_take, Nat.min_self]
  · rename_i t1
    rw [if_neg t1] at he hn
    split
    · rename_i t2
      rw [if_pos t2] at he hn
      have hn' : runN true D = n + 1 := hn
      rw [← hn', run_take, List.take_take, Nat.min_self]
    · rename_i t2
      rw [if_neg t2] at he hn
      split
      · rename_i t3
        rw [if_pos t3] at he hn
        have hn' : figN D = n + 1 := hn
        have hf : figN (D.take (figN D)) = figN D := by rw [hD]; exact fig_take c r (by rw [← hD]; omega)
        rw [← hn', hf, List.take_take, Nat.min_self]
      · rename_i t3
        rw [if_neg t3] at he hn
        split
        · rename_i t4
          rw [if_pos t4] at he hn
          have he' : (quoN r).2 = 0 := he
          simp only [he', if_true] at hn
          have hn' : n = (quoN r).1 + 1 := by omega
          have hq := quo_take r he'
          rw [hn', hq, List.take_take, Nat.min_eq_left (by omega)]
        · rename_i t4
          rw [if_neg t4] at he hn
          have hn' : (symS D).1 = n + 1 := hn
          have hf : symS (D.take (symS D).1) = symS D := by rw [hD] at he ⊢; exact sym_take c r he
          rw [← hn', hf, List.take_take, Nat.min_self]

/-- A token's text as it is written. -/
def wr (k : Int) (t : List UInt8) : List UInt8 := if k = 3 then 34 :: t ++ [34] else t

theorem next_wr (c : UInt8) (r : List UInt8) (he : (nextS (c :: r)).e = 0) : wr (nextS (c :: r)).k (nextS (c :: r)).t = (c :: r).take (nextS (c :: r)).n := by
  rw [nextS] at he ⊢
  split
  · rw [wr, if_neg (by simp)]
  · rename_i t1
    rw [if_neg t1] at he
    split
    · rw [wr, if_neg (by simp)]
    · rename_i t2
      rw [if_neg t2] at he
      split
      · rw [wr, if_neg (by simp)]
      · rename_i t3
        rw [if_neg t3] at he
        split
        · rename_i t4
          rw [if_pos t4] at he
          have he' : (quoN r).2 = 0 := he
          have hc : c = 34 := UInt8.toNat_inj.1 t4
          have e1 : (c :: r).drop 1 = r := rfl
          rw [wr, if_pos rfl]
          simp only [e1, he', if_true]
          rw [show 1 + (quoN r).1 + 1 = ((quoN r).1 + 1) + 1 by omega, List.take_succ_cons, quo_end r he', hc]; rfl
        · rw [wr, if_neg (by simp)]

/-- No line feed, no space, no remark begins a token. -/
theorem next_head (c : UInt8) (r : List UInt8) (he : (nextS (c :: r)).e = 0) : skipS false (c :: r) = (0, 0) := by
  have key : ∀ k : UInt8, (k = 10 ∨ k = 37 ∨ k = 32 ∨ k = 9 ∨ k = 13) → (nextS (k :: r)).e = 8 := by
    intro k hk
    have h1 : isLow k = false := by rcases hk with h | h | h | h | h <;> subst h <;> decide
    have h2 : isUp k = false := by rcases hk with h | h | h | h | h <;> subst h <;> decide
    have h3 : (isDig k || decide (k.toNat = 45)) = false := by rcases hk with h | h | h | h | h <;> subst h <;> decide
    have h4 : ¬ k.toNat = 34 := by rcases hk with h | h | h | h | h <;> subst h <;> decide
    rw [nextS, if_neg (by rw [h1]; simp), if_neg (by rw [h2]; simp), if_neg (by rw [h3]; simp), if_neg h4]
    show (symS (k :: r)).2 = 8
    have h5 : symC.contains k = false := by rcases hk with h | h | h | h | h <;> subst h <;> decide
    have h6 : (60 == k) = false := by rcases hk with h | h | h | h | h <;> subst h <;> decide
    have h7 : (33 == k) = false := by rcases hk with h | h | h | h | h <;> subst h <;> decide
    cases r with
    | nil => rw [sym_one, h5]; rfl
    | cons d r => rw [sym_two, h5, h6, h7]; rfl
  have no : ∀ k : UInt8, (k = 10 ∨ k = 37 ∨ k = 32 ∨ k = 9 ∨ k = 13) → c.toNat ≠ k.toNat := by
    intro k hk e
    have : c = k := UInt8.toNat_inj.1 e
    subst this
    rw [key c hk] at he
    cases he
  have n10 := no 10 (by simp)
  have n37 := no 37 (by simp)
  have n32 := no 32 (by simp)
  have n9 := no 9 (by simp)
  have n13 := no 13 (by simp)
  have a1 : ¬ c.toNat = 10 := n10
  have a2 : ¬ c.toNat = 37 := n37
  have a3 : ¬ c.toNat = 32 := n32
  have a4 : ¬ c.toNat = 9 := n9
  have a5 : ¬ c.toNat = 13 := n13
  rw [skipS, if_neg a1, if_neg (by simp [a2]), if_neg (by omega)]

/-- How many line feeds. -/
def nl (l : List UInt8) : Nat := l.countP fun c => c.toNat == 10
theorem nl_app (a b : List UInt8) : nl (a ++ b) = nl a + nl b := List.countP_append ..
theorem nl_zero {l : List UInt8} (h : ∀ c ∈ l, c.toNat ≠ 10) : nl l = 0 := by
  rw [nl, List.countP_eq_zero]
  intro c hc e
  exact h c hc (by simpa using e)
theorem nl_split (l : List UInt8) (k : Nat) : nl l = nl (l.take k) + nl (l.drop k) := by
  rw [← nl_app, List.take_append_drop]

theorem part_nl {big : Bool} {c : UInt8} (h : isPart big c = true) : c.toNat ≠ 10 := by
  intro e
  rw [part_sep big c (.inr e)] at h
  cases h

theorem next_nl (c : UInt8) (r : List UInt8) (he : (nextS (c :: r)).e = 0) : nl ((c :: r).take (nextS (c :: r)).n) = 0 := by
  refine nl_zero fun x hx => ?_
  rw [nextS] at he hx
  split at hx
  · rw [show (Tk.mk 1 ((c :: r).take (runN false (c :: r))) (if 32 < runN false (c :: r) then 7 else 0) (runN false (c :: r))).n = ((c :: r).takeWhile (isPart false)).length from rfl, tw_eq_take] at hx
    exact part_nl (tw_mem hx)
  · rename_i t1
    rw [if_neg t1] at he
    split at hx
    · rw [show (Tk.mk 2 ((c :: r).take (runN true (c :: r))) (if 32 < runN true (c :: r) then 7 else 0) (runN true (c :: r))).n = ((c :: r).takeWhile (isPart true)).length from rfl, tw_eq_take] at hx
      exact part_nl (tw_mem hx)
    · rename_i t2
      rw [if_neg t2] at he
      split at hx
      · rename_i t3
        have hx' : x ∈ (c :: r).take (figN (c :: r)) := hx
        unfold figN at hx'
        rw [List.take_add] at hx'
        rcases List.mem_append.1 hx' with h | h
        · unfold minN at h
          split at h
          · rename_i h45
            have h1 : x = c := by simpa using h
            have h2 : c = 45 := by simpa using h45
            rw [h1, h2]; decide
          · simp at h
        · rw [tw_eq_take] at h
          have := tw_mem h
          intro e
          rw [dig_sep x (.inr e)] at this
          cases this
      · rename_i t3
        rw [if_neg t3] at he
        split at hx
        · rename_i t4
          rw [if_pos t4] at he
          have he' : (quoN r).2 = 0 := he
          have e1 : (c :: r).drop 1 = r := rfl
          simp only [e1, he', if_true] at hx
          rw [show 1 + (quoN r).1 + 1 = ((quoN r).1 + 1) + 1 by omega, List.take_succ_cons, quo_end r he'] at hx
          rcases List.mem_cons.1 hx with h | h
          · rw [h]; omega
          · rcases List.mem_append.1 h with h | h
            · have := quo_prt r he' x h
              unfold prt at this
              simp only [Bool.and_eq_true, decide_eq_true_eq] at this
              omega
            · have : x = 34 := by simpa using h
              rw [this]; decide
        · rename_i t4
          rw [if_neg t4] at he
          have he' : (symS (c :: r)).2 = 0 := he
          have hx' : x ∈ (c :: r).take (symS (c :: r)).1 := hx
          have hsy : symC.contains c = true → c.toNat ≠ 10 := by
            intro h e
            have : c = 10 := UInt8.toNat_inj.1 e
            subst this
            revert h; decide
          cases r with
          | nil =>
            rw [sym_one] at he' hx'
            split at he'
            · rename_i hc
              rw [if_pos hc] at hx'
              have : x = c := by simpa using hx'
              rw [this]; exact hsy hc
            · cases he'
          | cons d r =>
            rw [sym_two] at he' hx'
            split at he'
            · rename_i hc
              rw [if_pos hc] at hx'
              have h2 : x = c ∨ x = d := by simpa using hx'
              simp only [Bool.or_eq_true, Bool.and_eq_true, beq_iff_eq] at hc
              rcases hc with ⟨h3, h4⟩ | ⟨h3, h4⟩ <;> rcases h2 with h | h <;> rw [h] <;> first | rw [← h3] | rw [← h4]
              all_goals decide
            · rename_i hc
              rw [if_neg hc] at hx'
              split at he'
              · rename_i hd
                rw [if_pos hd] at hx'
                have : x = c := by simpa using hx'
                rw [this]; exact hsy hd
              · cases he'
end Go.Proofs.YtbabdjhikamkoaaDoor

namespace Go.Proofs.YtbabdjhikamkoaaDoor
set_option linter.unusedSimpArgs false
set_option linter.unusedVariables false
open Go Go.Abs

theorem scan_fuel : ∀ (f g : Nat) (D : List UInt8) (l : Nat), D.length < f → D.length < g → scanG f D l = scanG g D l
  | 0, _, D, l, h, _ => by omega
  | _, 0, D, l, _, h => by omega
  | f + 1, g + 1, D, l, hf, hg => by
    rw [scanG, scanG]
    cases D with
    | nil => rfl
    | cons c r =>
      simp only [List.isEmpty_cons, Bool.false_eq_true, if_false]
      by_cases he : (nextS (c :: r)).e = 0
      · obtain ⟨n1, n2⟩ := next_pos (c :: r) rfl he
        have hl : (((c :: r).drop (nextS (c :: r)).n).drop (skipS false ((c :: r).drop (nextS (c :: r)).n)).1).length ≤ (c :: r).length - 1 := by
          rw [List.length_drop, List.length_drop]; omega
        rw [scan_fuel f g _ _ (by omega) (by omega)]
      · rw [if_pos he, if_pos he]

theorem scan_step (f : Nat) (c : UInt8) (r : List UInt8) (l : Nat) (he : (nextS (c :: r)).e = 0) :
    scanG (f + 1) (c :: r) l = match scanC f false ((c :: r).drop (nextS (c :: r)).n) l with
      | .error x => .error x
      | .ok ts => .ok (⟨(nextS (c :: r)).k, (nextS (c :: r)).t, l⟩ :: ts) := by
  rw [scanG]
  simp only [List.isEmpty_cons, Bool.false_eq_true, if_false, he, ne_eq, not_true_eq_false, scanC]
  generalize scanG f (List.drop (skipS false (List.drop (nextS (c :: r)).n (c :: r))).fst (List.drop (nextS (c :: r)).n (c :: r))) (l + (skipS false (List.drop (nextS (c :: r)).n (c :: r))).snd) = z
  cases z <;> rfl

/-! What is scanned. -/
def TokOK (t : Tok) : Prop := ∃ c r, (nextS (c :: r)).e = 0 ∧ t.k = (nextS (c :: r)).k ∧ t.t = (nextS (c :: r)).t
def wrT (t : Tok) : List UInt8 := wr t.k t.t
def lineOf (ts : List Tok) : List UInt8 := ts.flatMap fun t => 32 :: wrT t

theorem TokOK.next {t : Tok} (h : TokOK t) : ∃ c r, wrT t = c :: r ∧ (nextS (c :: r)).e = 0 ∧ (nextS (c :: r)).k = t.k ∧ (nextS (c :: r)).t = t.t ∧ (nextS (c :: r)).n = (c :: r).length := by
  obtain ⟨c, r, he, hk, ht⟩ := h
  obtain ⟨n1, n2⟩ := next_pos (c :: r) rfl he
  obtain ⟨n, hn⟩ : ∃ n, (nextS (c :: r)).n = n + 1 := ⟨(nextS (c :: r)).n - 1, by omega⟩
  have hw : wrT t = (c :: r).take (nextS (c :: r)).n := by rw [wrT, hk, ht]; exact next_wr c r he
  have hx := next_take c r he
  rw [hn] at hw hx n2
  rw [List.take_succ_cons] at hw hx
  refine ⟨c, r.take n, hw, by rw [hx]; exact he, by rw [hx, hk], by rw [hx, ht], ?_⟩
  rw [hx, hn]
  simp only [List.length_cons, List.length_take] at n2 ⊢
  omega

theorem scanG_ok : ∀ (f : Nat) (D : List UInt8) (l : Nat) (ts : List Tok), scanG f D l = .ok ts → (∀ t ∈ ts, TokOK t) ∧ (ts.flatMap wrT).length ≤ D.length
  | 0, D, l, ts, h => by simp only [scanG, Except.ok.injEq] at h; subst h; simp
  | f + 1, [], l, ts, h => by
    rw [scanG] at h
    simp only [List.isEmpty_nil, if_true, Except.ok.injEq] at h
    subst h; simp
  | f + 1, c :: r, l, ts, h => by
    by_cases he : (nextS (c :: r)).e = 0
    · rw [scan_step f c r l he] at h
      split at h
      · cases h
      · rename_i ts' h2
        injection h with h
        subst h
        obtain ⟨i1, i2⟩ := scanG_ok f _ _ _ h2
        obtain ⟨n1, n2⟩ := next_pos (c :: r) rfl he
        refine ⟨fun t ht => ?_, ?_⟩
        · rcases List.mem_cons.1 ht with e | e
          · rw [e]; exact ⟨c, r, he, rfl, rfl⟩
          · exact i1 t e
        · rw [List.flatMap_cons, List.length_append]
          have hw : wrT ⟨(nextS (c :: r)).k, (nextS (c :: r)).t, l⟩ = (c :: r).take (nextS (c :: r)).n := next_wr c r he
          rw [hw, List.length_take]
          rw [List.length_drop, List.length_drop] at i2
          omega
    · rw [scanG] at h
      simp only [List.isEmpty_cons, Bool.false_eq_true, if_false, ne_eq, he, not_false_eq_true, if_true] at h
      cases h

theorem line_len : ∀ ts : List Tok, (lineOf ts).length = (ts.flatMap wrT).length + ts.length
  | [] => rfl
  | t :: ts => by
    have := line_len ts
    unfold lineOf at this ⊢
    rw [List.flatMap_cons, List.flatMap_cons, List.length_append, List.length_append, List.length_cons, List.length_cons]
    omega

theorem sep_line (ts : List Tok) : Sep (lineOf ts) := by
  intro c r h
  cases ts with
  | nil => cases h
  | cons t ts =>
    have h' : 32 :: (wrT t ++ lineOf ts) = c :: r := h
    injection h' with h1 _
    left; rw [← h1]; decide

theorem scan_line : ∀ (ts : List Tok) (l f : Nat), (∀ t ∈ ts, TokOK t) → (lineOf ts).length < f → scanC f false (lineOf ts) l = .ok (ts.map fun t => ⟨t.k, t.t, l⟩)
  | [], l, f, _, hf => by
    obtain ⟨f, rfl⟩ : ∃ g, f = g + 1 := ⟨f - 1, by omega⟩
    rfl
  | t :: ts, l, f, hok, hf => by
    obtain ⟨f, rfl⟩ : ∃ g, f = g + 1 := ⟨f - 1, by omega⟩
    obtain ⟨c, r, hw, he, hk, ht, hn⟩ := (hok t (by simp)).next
    have hL : lineOf (t :: ts) = 32 :: (c :: r ++ lineOf ts) := by
      show (32 :: wrT t) ++ lineOf ts = _
      rw [hw]; rfl
    have hx := next_app c r (sep_line ts) he
    have hxe : (nextS (c :: r ++ lineOf ts)).e = 0 := by rw [hx]; exact he
    have hsk : skipS false (32 :: (c :: r ++ lineOf ts)) = (1, 0) := by
      have h0 := next_head c (r ++ lineOf ts) hxe
      have h0' : skipS false (c :: r ++ lineOf ts) = (0, 0) := h0
      rw [skipS, h0']; rfl
    rw [hL, scanC, hsk]
    have e1 : (32 :: (c :: r ++ lineOf ts)).drop (1, 0).1 = c :: (r ++ lineOf ts) := rfl
    rw [e1]
    have st := scan_step f c (r ++ lineOf ts) (l + (1, 0).2) hxe
    rw [st]
    have hx' : nextS (c :: (r ++ lineOf ts)) = nextS (c :: r) := hx
    have hd : (c :: (r ++ lineOf ts)).drop (nextS (c :: (r ++ lineOf ts))).n = lineOf ts := by
      rw [hx', hn]
      exact List.drop_left' rfl
    rw [hd]
    have ih := scan_line ts (l + (1, 0).2) f (fun t h => hok t (by simp [h])) (by rw [hL] at hf; simp at hf; omega)
    rw [ih, hx', hk, ht]
    rfl

theorem scanC_def (D : List UInt8) (l : Nat) : scanS D l = scanC (D.length + 1) false D l := rfl

/-- The law of tokens, in plain words. -/
theorem scan_written (D : List UInt8) (l : Nat) (ts : List Tok) (h : scanS D l = .ok ts) : scanS (lineOf ts) 1 = .ok (ts.map fun t => ⟨t.k, t.t, 1⟩) ∧ (lineOf ts).length ≤ 2 * D.length := by
  obtain ⟨h1, h2⟩ := scanG_ok _ _ _ _ h
  have h3 := scanS_len h
  refine ⟨scan_line ts 1 _ h1 (by omega), ?_⟩
  rw [line_len]
  rw [List.length_drop] at h2
  omega

/-! Errors have a line. -/
theorem scanG_err : ∀ (f : Nat) (D : List UInt8) (l : Nat) (x : Nat × Int), scanG f D l = .error x → l ≤ x.1 ∧ x.2 ≠ 0
  | 0, D, l, x, h => by cases h
  | f + 1, [], l, x, h => by cases h
  | f + 1, c :: r, l, x, h => by
    by_cases he : (nextS (c :: r)).e = 0
    · rw [scan_step f c r l he] at h
      split at h
      · rename_i y hy
        injection h with h
        subst h
        have := scanG_err f _ _ _ hy
        exact ⟨by omega, this.2⟩
      · cases h
    · rw [scanG] at h
      simp only [List.isEmpty_cons, Bool.false_eq_true, if_false, ne_eq, he, not_false_eq_true, if_true] at h
      injection h with h
      subst h
      exact ⟨Nat.le_refl _, he⟩
theorem scanS_err {D : List UInt8} {l : Nat} {x : Nat × Int} (h : scanS D l = .error x) : l ≤ x.1 ∧ x.2 ≠ 0 := by
  have := scanG_err _ _ _ _ h
  exact ⟨by omega, this.2⟩

/-! Lines. -/
def later (k : Nat) : Except (Nat × Int) (List Tok) → Except (Nat × Int) (List Tok)
  | .error x => .error (x.1 + k, x.2)
  | .ok ts => .ok (ts.map fun t => ⟨t.k, t.t, t.l + k⟩)

theorem scan_later (k : Nat) : ∀ (f : Nat) (D : List UInt8) (l : Nat), scanG f D (l + k) = later k (scanG f D l)
  | 0, D, l => rfl
  | f + 1, [], l => rfl
  | f + 1, c :: r, l => by
    by_cases he : (nextS (c :: r)).e = 0
    · rw [scan_step f c r l he, scan_step f c r (l + k) he]
      have ih := scan_later k f (((c :: r).drop (nextS (c :: r)).n).drop (skipS false ((c :: r).drop (nextS (c :: r)).n)).1) (l + (skipS false ((c :: r).drop (nextS (c :: r)).n)).2)
      unfold scanC
      rw [show l + k + (skipS false ((c :: r).drop (nextS (c :: r)).n)).2 = l + (skipS false ((c :: r).drop (nextS (c :: r)).n)).2 + k by omega, ih]
      cases scanG f (((c :: r).drop (nextS (c :: r)).n).drop (skipS false ((c :: r).drop (nextS (c :: r)).n)).1) (l + (skipS false ((c :: r).drop (nextS (c :: r)).n)).2) <;> rfl
    · rw [scanG, scanG]
      simp only [List.isEmpty_cons, Bool.false_eq_true, if_false, ne_eq, he, not_false_eq_true, if_true, later]

/-- White space and remarks, with more behind. -/
theorem skip_app : ∀ (D : List UInt8) (cm : Bool),
    ((skipS cm D).1 = D.length ∧ (skipS cm D).2 = nl D ∧ ∀ E, skipS cm (D ++ 10 :: E) = (D.length + 1 + (skipS false E).1, nl D + 1 + (skipS false E).2)) ∨
    ((skipS cm D).1 < D.length ∧ (skipS cm D).2 = nl (D.take (skipS cm D).1) ∧ ∀ X, skipS cm (D ++ X) = skipS cm D)
  | [], cm => by
    left
    refine ⟨rfl, rfl, fun E => ?_⟩
    rw [List.nil_append, skipS, if_pos (by decide)]
    simp [nl]
    omega
  | c :: D, cm => by
    have go : ∀ (cm' : Bool) (k : Nat), (∀ X, skipS cm (c :: D ++ X) = ((skipS cm' (D ++ X)).1 + 1, (skipS cm' (D ++ X)).2 + k)) → (∀ l, nl (c :: l) = nl l + k) →
        ((skipS cm (c :: D)).1 = (c :: D).length ∧ (skipS cm (c :: D)).2 = nl (c :: D) ∧ ∀ E, skipS cm (c :: D ++ 10 :: E) = ((c :: D).length + 1 + (skipS false E).1, nl (c :: D) + 1 + (skipS false E).2)) ∨
        ((skipS cm (c :: D)).1 < (c :: D).length ∧ (skipS cm (c :: D)).2 = nl ((c :: D).take (skipS cm (c :: D)).1) ∧ ∀ X, skipS cm (c :: D ++ X) = skipS cm (c :: D)) := by
      intro cm' k h hn
      have h0 := h []
      rw [List.append_nil, List.append_nil] at h0
      rcases skip_app D cm' with ⟨i1, i2, i3⟩ | ⟨i1, i2, i3⟩
      · left
        refine ⟨by rw [h0, i1]; rfl, by rw [h0, i2, hn], fun E => ?_⟩
        rw [h, i3 E, hn]
        simp only [List.length_cons, Prod.mk.injEq]
        omega
      · right
        refine ⟨by rw [h0]; simp; exact i1, ?_, fun X => by rw [h, i3 X, h0]⟩
        rw [h0]
        simp only [List.take_succ_cons, hn]
        rw [← i2]
    by_cases h10 : c.toNat = 10
    · refine go false 1 (fun X => ?_) (fun l => ?_)
      · rw [List.cons_append, skipS, if_pos h10]
      · simp [nl, h10]
    · have hn : ∀ l, nl (c :: l) = nl l + 0 := by intro l; simp [nl, h10]
      by_cases h37 : (cm || decide (c.toNat = 37)) = true
      · refine go true 0 (fun X => ?_) hn
        rw [List.cons_append, skipS, if_neg h10, if_pos h37]; rfl
      · by_cases h32 : c.toNat = 32 ∨ c.toNat = 9 ∨ c.toNat = 13
        · refine go false 0 (fun X => ?_) hn
          rw [List.cons_append, skipS, if_neg h10, if_neg h37, if_pos h32]; rfl
        · right
          have e : ∀ X, skipS cm (c :: D ++ X) = (0, 0) := by
            intro X
            rw [List.cons_append, skipS, if_neg h10, if_neg h37, if_neg h32]
          have e0 := e []
          rw [List.append_nil] at e0
          rw [e0]
          exact ⟨by simp, by simp [nl], fun X => e X⟩

theorem sep_nl (E : List UInt8) : Sep (10 :: E) := by
  intro c r h
  injection h with h _
  right; rw [← h]; decide

theorem scan_join : ∀ (f : Nat) (D : List UInt8) (cm : Bool) (l g : Nat) (a : List Tok) (E : List UInt8), D.length < f → (D ++ 10 :: E).length < g → scanC f cm D l = .ok a →
    scanC g cm (D ++ 10 :: E) l = ahead a (scanC (E.length + 1) false E (l + nl D + 1))
  | 0, D, cm, l, g, a, E, hf, _, _ => by omega
  | f + 1, D, cm, l, g, a, E, hf, hg, h => by
    obtain ⟨g, rfl⟩ : ∃ k, g = k + 1 := ⟨g - 1, by omega⟩
    rw [List.length_append, List.length_cons] at hg
    rcases skip_app D cm with ⟨i1, i2, i3⟩ | ⟨i1, i2, i3⟩
    · have ha : a = [] := by
        rw [scanC, i1, List.drop_eq_nil_of_le (Nat.le_refl _)] at h
        rw [scanG] at h
        simp only [List.isEmpty_nil, if_true, Except.ok.injEq] at h
        exact h.symm
      subst ha
      rw [ahead_nil, scanC, i3 E, scanC]
      have e1 : (D ++ 10 :: E).drop (D.length + 1 + (skipS false E).1) = E.drop (skipS false E).1 := by
        rw [show D.length + 1 + (skipS false E).1 = D.length + ((skipS false E).1 + 1) by omega, ← List.drop_drop, List.drop_left' rfl, List.drop_succ_cons]
      rw [e1, show l + (nl D + 1 + (skipS false E).2) = l + nl D + 1 + (skipS false E).2 by omega]
      have hl : (E.drop (skipS false E).1).length ≤ E.length := by rw [List.length_drop]; omega
      exact scan_fuel _ _ _ _ (by omega) (by omega)
    · obtain ⟨p, hp⟩ : ∃ p, p = (skipS cm D).1 := ⟨_, rfl⟩
      rw [← hp] at i1 i2
      have hsp := nl_split D p
      rw [scanC, ← hp, i2] at h
      rw [scanC, i3, ← hp, i2, List.drop_append_of_le_length (by omega)]
      obtain ⟨D', hD'⟩ : ∃ D', D' = D.drop p := ⟨_, rfl⟩
      have hl' : D'.length = D.length - p := by rw [hD', List.length_drop]
      rw [← hD'] at h hsp ⊢
      obtain ⟨l', hl2⟩ : ∃ l', l' = l + nl (D.take p) := ⟨_, rfl⟩
      rw [← hl2] at h ⊢
      cases hc : D' with
      | nil => rw [hc] at hl'; simp at hl'; omega
      | cons c r =>
        rw [hc] at h hl' hsp
        by_cases he : (nextS (c :: r)).e = 0
        · rw [scan_step f c r l' he] at h
          have hx := next_app c r (sep_nl E) he
          have hxe : (nextS (c :: r ++ 10 :: E)).e = 0 := by rw [hx]; exact he
          have st := scan_step g c (r ++ 10 :: E) l' hxe
          have hx' : nextS (c :: (r ++ 10 :: E)) = nextS (c :: r) := hx
          obtain ⟨n1, n2⟩ := next_pos (c :: r) rfl he
          have hnl := next_nl c r he
          have hsp2 := nl_split (c :: r) (nextS (c :: r)).n
          have hd : (c :: (r ++ 10 :: E)).drop (nextS (c :: (r ++ 10 :: E))).n = (c :: r).drop (nextS (c :: r)).n ++ 10 :: E := by
            rw [hx']
            exact List.drop_append_of_le_length n2
          rw [hd, hx'] at st
          have st' : scanG (g + 1) (c :: r ++ 10 :: E) l' = _ := st
          rw [st']
          split at h
          · cases h
          · rename_i a' ha'
            injection h with h
            have hlen : ((c :: r).drop (nextS (c :: r)).n).length < f := by rw [List.length_drop]; omega
            have ih := scan_join f _ false l' g a' E hlen (by rw [List.length_append, List.length_cons, List.length_drop]; omega) ha'
            rw [ih]
            have : l' + nl ((c :: r).drop (nextS (c :: r)).n) + 1 = l + nl D + 1 := by omega
            rw [this, ← h]
            cases scanC (E.length + 1) false E (l + nl D + 1) <;> rfl
        · rw [scanG] at h
          simp only [List.isEmpty_cons, Bool.false_eq_true, if_false, ne_eq, he, not_false_eq_true, if_true] at h
          cases h

/-- The law of lines, in plain words. -/
theorem scan_lines (D E : List UInt8) (a b : List Tok) (ha : scanS D 1 = .ok a) (hb : scanS E 1 = .ok b) :
    scanS (D ++ 10 :: E) 1 = .ok (a ++ b.map fun t => ⟨t.k, t.t, t.l + (nl D + 1)⟩) := by
  have h := scan_join (D.length + 1) D false 1 ((D ++ 10 :: E).length + 1) a E (by omega) (by omega) ha
  have h2 : scanC (E.length + 1) false E (1 + nl D + 1) = later (nl D + 1) (scanS E 1) := by
    have := scan_later (nl D + 1) (E.length + 1) (E.drop (skipS false E).1) (1 + (skipS false E).2)
    rw [scanC, scanS, ← this]
    congr 1
    omega
  rw [hb] at h2
  rw [h2] at h
  exact h
end Go.Proofs.YtbabdjhikamkoaaDoor
