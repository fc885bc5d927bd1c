/-
 Auxiliary facts. No statement of the program stands here.
-/
import Derived.Test.YtjkkgbdoeaihmaaGreatDoorUBQ28
namespace Go.Proofs.YtjkkgbdoeaihmaaGreatDoor
set_option linter.unusedSimpArgs false
set_option linter.unusedVariables false
open Go Go.Abs
theorem scanG_len : ∀ (f : Nat) (D : List UInt8) (l : Nat) (ts : List Tok), scanG f D l = .ok ts → ts.length ≤ D.length
 | 0, D, l, ts, h => by simp only [scanG, Except.ok.injEq] at h; subst h; simp
 | f + 1, D, l, ts, h => by
  rw [scanG] at h
  split at h
  ·simp only [Except.ok.injEq] at h; subst h; simp
  ·rename_i h0
   split at h
   ·cases h
   ·rename_i he
    obtain ⟨n1, n2⟩ := next_pos D (by simpa using h0) (by simpa using he)
    split at h
    ·cases h
    ·rename_i ts' h2
     injection h with h
     subst h
     have := scanG_len f _ _ _ h2
     simp only [List.length_drop] at this
     simp only [List.length_cons]
     omega
theorem scanS_len {D : List UInt8} {l : Nat} {ts : List Tok} (h : scanS D l = .ok ts) : ts.length ≤ D.length := by
 have := scanG_len _ _ _ _ h
 simp only [List.length_drop] at this
 omega
theorem scan_step (f : Nat) (c : UInt8) (r : List UInt8) (l : Nat) (he : (nextS (c :: r)).e = 0) :
  scanG (f + 1) (c :: r) l = match scanC f false ((c :: r).drop (nextS (c :: r)).n) l with
   | .error x => .error x
   | .ok ts => .ok (⟨(nextS (c :: r)).k, (nextS (c :: r)).t, l⟩ :: ts) := by
 rw [scanG]
 simp only [List.isEmpty_cons, Bool.false_eq_true, if_false, he, ne_eq, not_true_eq_false, scanC]
 generalize scanG f (List.drop (skipS false (List.drop (nextS (c :: r)).n (c :: r))).fst (List.drop (nextS (c :: r)).n (c :: r))) (l + (skipS false (List.drop (nextS (c :: r)).n (c :: r))).snd) = z
 cases z <;> rfl
def TokOK (t : Tok) : Prop := ∃ c r, (nextS (c :: r)).e = 0 ∧ t.k = (nextS (c :: r)).k ∧ t.t = (nextS (c :: r)).t
def wrT (t : Tok) : List UInt8 := wr t.k t.t
theorem TokOK.next {t : Tok} (h : TokOK t) : ∃ c r, wrT t = c :: r ∧ (nextS (c :: r)).e = 0 ∧ (nextS (c :: r)).k = t.k ∧ (nextS (c :: r)).t = t.t ∧ (nextS (c :: r)).n = (c :: r).length := by
 obtain ⟨c, r, he, hk, ht⟩ := h
 obtain ⟨n1, n2⟩ := next_pos (c :: r) rfl he
 obtain ⟨n, hn⟩ : ∃ n, (nextS (c :: r)).n = n + 1 := ⟨(nextS (c :: r)).n - 1, by omega⟩
 have hw : wrT t = (c :: r).take (nextS (c :: r)).n := by rw [wrT, hk, ht]; exact next_wr c r he
 have hx := next_take c r he
 rw [hn] at hw hx n2
 rw [List.take_succ_cons] at hw hx
 refine ⟨c, r.take n, hw, by rw [hx]; exact he, by rw [hx, hk], by rw [hx, ht], ?_⟩
 rw [hx, hn]
 simp only [List.length_cons, List.length_take] at n2 ⊢
 omega
theorem scanG_ok : ∀ (f : Nat) (D : List UInt8) (l : Nat) (ts : List Tok), scanG f D l = .ok ts → (∀ t ∈ ts, TokOK t) ∧ (ts.flatMap wrT).length ≤ D.length
 | 0, D, l, ts, h => by simp only [scanG, Except.ok.injEq] at h; subst h; simp
 | f + 1, [], l, ts, h => by
  rw [scanG] at h
  simp only [List.isEmpty_nil, if_true, Except.ok.injEq] at h
  subst h; simp
 | f + 1, c :: r, l, ts, h => by
  by_cases he : (nextS (c :: r)).e = 0
  ·rw [scan_step f c r l he] at h
   split at h
   ·cases h
   ·rename_i ts' h2
    injection h with h
    subst h
    obtain ⟨i1, i2⟩ := scanG_ok f _ _ _ h2
    obtain ⟨n1, n2⟩ := next_pos (c :: r) rfl he
    refine ⟨fun t ht => ?_, ?_⟩
    ·rcases List.mem_cons.1 ht with e | e
     ·rw [e]; exact ⟨c, r, he, rfl, rfl⟩
     ·exact i1 t e
    ·rw [List.flatMap_cons, List.length_append]
     have hw : wrT ⟨(nextS (c :: r)).k, (nextS (c :: r)).t, l⟩ = (c :: r).take (nextS (c :: r)).n := next_wr c r he
     rw [hw, List.length_take]
     rw [List.length_drop, List.length_drop] at i2
     omega
  ·rw [scanG] at h
   simp only [List.isEmpty_cons, Bool.false_eq_true, if_false, ne_eq, he, not_false_eq_true, if_true] at h
   cases h
theorem scanC_def (D : List UInt8) (l : Nat) : scanS D l = scanC (D.length + 1) false D l := rfl
theorem scanG_err : ∀ (f : Nat) (D : List UInt8) (l : Nat) (x : Nat × Int), scanG f D l = .error x → l ≤ x.1 ∧ x.2 ≠ 0
 | 0, D, l, x, h => by cases h
 | f + 1, [], l, x, h => by cases h
 | f + 1, c :: r, l, x, h => by
  by_cases he : (nextS (c :: r)).e = 0
  ·rw [scan_step f c r l he] at h
   split at h
   ·rename_i y hy
    injection h with h
    subst h
    have := scanG_err f _ _ _ hy
    exact ⟨by omega, this.2⟩
   ·cases h
  ·rw [scanG] at h
   simp only [List.isEmpty_cons, Bool.false_eq_true, if_false, ne_eq, he, not_false_eq_true, if_true] at h
   injection h with h
   subst h
   exact ⟨Nat.le_refl _, he⟩
theorem scanS_err {D : List UInt8} {l : Nat} {x : Nat × Int} (h : scanS D l = .error x) : l ≤ x.1 ∧ x.2 ≠ 0 := by
 have := scanG_err _ _ _ _ h
 exact ⟨by omega, this.2⟩
def later (k : Nat) : Except (Nat × Int) (List Tok) → Except (Nat × Int) (List Tok)
 | .error x => .error (x.1 + k, x.2)
 | .ok ts => .ok (ts.map fun t => ⟨t.k, t.t, t.l + k⟩)
end Go.Proofs.YtjkkgbdoeaihmaaGreatDoor
