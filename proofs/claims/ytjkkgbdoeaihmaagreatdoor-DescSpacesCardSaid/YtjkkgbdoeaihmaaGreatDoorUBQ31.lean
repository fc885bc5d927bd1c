/-
 Auxiliary facts. No statement of the program stands here.
-/
import Derived.Test.YtjkkgbdoeaihmaaGreatDoorUBQ30
namespace Go.Proofs.YtjkkgbdoeaihmaaGreatDoor
set_option linter.unusedSimpArgs false
set_option linter.unusedVariables false
open Go Go.Abs
section
variable {l : List KT}
def Tks (l : List KT) (p : Nat) (ks : List KT) : Prop := p ≤ l.length ∧ l.drop p = ks
theorem Tks.len {p : Nat} {ks : List KT} (h : Tks l p ks) : l.length = p + ks.length := by
 have := congrArg List.length h.2
 rw [List.length_drop] at this
 have := h.1
 omega
theorem Tks.tok {p : Nat} {t : KT} {ks : List KT} (h : Tks l p (t :: ks)) : l[p]? = some t := by
 have : (l.drop p)[0]? = some t := by rw [h.2]; rfl
 rwa [List.getElem?_drop, Nat.add_zero] at this
theorem Tks.next {p : Nat} {t : KT} {ks : List KT} (h : Tks l p (t :: ks)) : Tks l (p + 1) ks := by
 have hl := h.len
 rw [List.length_cons] at hl
 refine ⟨by omega, ?_⟩
 rw [← List.drop_drop, h.2]; rfl
theorem Tks.app {p : Nat} {ts ks : List KT} (h : Tks l p (ts ++ ks)) : Tks l (p + ts.length) ks := by
 have hl := h.len
 rw [List.length_append] at hl
 refine ⟨by omega, ?_⟩
 rw [← List.drop_drop, h.2, List.drop_left' rfl]
theorem Tks.sy {p : Nat} {t : KT} {ks : List KT} (h : Tks l p (t :: ks)) (s : List UInt8) : isSy l p s = (decide (t.1 = 5) && decide (t.2 = s)) := by
 unfold isSy; rw [h.tok]
theorem Tks.noSy {p : Nat} {ks : List KT} (h : Tks l p ks) {s : List UInt8} (hn : ks.head? ≠ some (5, s)) : isSy l p s = false := by
 cases ks with
 | nil =>
  have hl := h.len
  have : l[p]? = none := List.getElem?_eq_none (by simp at hl; omega)
  unfold isSy; rw [this]
 | cons t ks =>
  rw [h.sy]
  cases hd : (decide (t.1 = 5) && decide (t.2 = s)) with
  | false => rfl
  | true =>
   exfalso
   rw [Bool.and_eq_true] at hd
   have e1 := of_decide_eq_true hd.1
   have e2 := of_decide_eq_true hd.2
   apply hn
   obtain ⟨a, b⟩ := t
   simp only at e1 e2
   rw [e1, e2]; rfl
theorem Tks.isS {p : Nat} {s : List UInt8} {ks : List KT} (h : Tks l p ((5, s) :: ks)) : isSy l p s = true := by rw [h.sy]; simp
theorem Tks.tak {p : Nat} {k : Int} {s : List UInt8} {ks : List KT} (h : Tks l p ((k, s) :: ks)) : takeK l p k = .ok (bs s, p + 1) := by
 unfold takeK; rw [h.tok]; simp
theorem Tks.skip {p : Nat} {s : List UInt8} {ks : List KT} (h : Tks l p ((5, s) :: ks)) : skipK l p s = .ok (p + 1) := by
 have hl := h.len
 rw [List.length_cons] at hl
 unfold skipK
 rw [if_neg (by omega), h.isS]; rfl
theorem Tks.close {p : Nat} {s : List UInt8} {ks : List KT} (h : Tks l p ((5, s) :: ks)) (op : Int) (kids : List Ds) : closeS l s op kids p = .ok (.mk op ⟨#[]⟩ [] kids, p + 1) := by
 unfold closeS; rw [h.skip]
theorem size_zero {n : ByteArray} (h : n.size = 0) : n = ⟨#[]⟩ := by
 obtain ⟨a⟩ := n
 have : a.size = 0 := h
 congr
 exact Array.eq_empty_of_size_eq_zero this
def tkF (path : List ByteArray) : List KT := path.flatMap fun s => [(5, [46]), (2, s.data.toList)]
theorem tkP_cons (s : ByteArray) : ∀ r : List ByteArray, tkP (s :: r) = (2, s.data.toList) :: tkF r
 | [] => rfl
 | s2 :: r => by
  rw [tkP, tkP_cons s2 r]
  rfl
theorem path_tk : ∀ (r : List ByteArray) (f p : Nat) (path : List ByteArray) (ks : List KT), Tks l p (tkF r ++ ks) → ks.head? ≠ some (5, [46]) → path.length + r.length ≤ 64 → r.length < f → pathS l f p path = .ok (path ++ r, p + (tkF r).length)
 | [], f, p, path, ks, h, hk, hl, hf => by
  obtain ⟨f, rfl⟩ : ∃ g, f = g + 1 := ⟨f - 1, by omega⟩
  rw [pathS, if_neg (by rw [Tks.noSy h hk]; simp), List.append_nil]
  rfl
 | s :: r, f, p, path, ks, h, hk, hl, hf => by
  obtain ⟨f, rfl⟩ : ∃ g, f = g + 1 := ⟨f - 1, by omega⟩
  have h' : Tks l p ((5, [46]) :: ((2, s.data.toList) :: (tkF r ++ ks))) := h
  simp only [List.length_cons] at hl hf
  rw [pathS, if_pos h'.isS, if_neg (by omega), h'.next.tak]
  simp only
  rw [bs_data, path_tk r f _ _ ks h'.next.next hk (by simp; omega) (by omega)]
  have e : (tkF (s :: r)).length = (tkF r).length + 2 := rfl
  have e1 : path ++ [s] ++ r = path ++ s :: r := by simp
  have e2 : p + 1 + 1 + (tkF r).length = p + ((tkF r).length + 2) := by omega
  rw [e, e1, e2]
theorem tkF_len : ∀ r : List ByteArray, (tkF r).length = 2 * r.length
 | [] => rfl
 | s :: r => by
  have e : (tkF (s :: r)).length = (tkF r).length + 2 := rfl
  rw [e, tkF_len r, List.length_cons]; omega
def tkS (sep : List KT) (r : List Ds) : List KT := r.flatMap fun d => sep ++ tkD d
theorem tkL_same (sep : List KT) : ∀ (d : Ds) (r : List Ds), tkL sep sep (d :: r) = tkD d ++ tkS sep r
 | d, [] => by rw [tkL, tkL]; rfl
 | d, d2 :: r => by
  rw [tkL, tkL_same sep d2 r]
  have e : tkS sep (d2 :: r) = sep ++ tkD d2 ++ tkS sep r := by rw [tkS, List.flatMap_cons]; rfl
  rw [e, List.append_assoc]
  cases r <;> rfl
theorem tkL_last (sep last : List KT) : ∀ (d : Ds) (r : List Ds) (z : Ds), tkL sep last (d :: (r ++ [z])) = tkD d ++ (tkS sep r ++ (last ++ tkD z))
 | d, [], z => by
  rw [List.nil_append, tkL, tkL, tkL]
  simp [tkS, sepOf]
 | d, d2 :: r, z => by
  rw [tkL, List.cons_append, tkL_last sep last d2 r z]
  have e : tkS sep (d2 :: r) = sep ++ tkD d2 ++ tkS sep r := by rw [tkS, List.flatMap_cons]; rfl
  rw [e]
  have e2 : sepOf sep last (d2 :: (r ++ [z])) = sep := by cases r <;> rfl
  rw [e2]
  simp only [List.append_assoc]
def Reads (l : List KT) (rec : Nat → Res Ds) (d : Ds) : Prop := ∀ p ks, Tks l p (tkD d ++ ks) → ks.head? ≠ some (5, [38]) → rec p = .ok (d, p + (tkD d).length)
theorem it_tk {rec : Nat → Res Ds} : ∀ (r : List Ds) (f p : Nat) (acc : List Ds) (ks : List KT), (∀ d ∈ r, Reads l rec d) → Tks l p (tkS [(5, [44])] r ++ ks) → ks.head? ≠ some (5, [44]) → ks.head? ≠ some (5, [38]) → acc.length + r.length ≤ 256 → r.length < f →
  itS l rec f p acc = .ok (acc ++ r, p + (tkS [(5, [44])] r).length)
 | [], f, p, acc, ks, _, h, hk, _, hl, hf => by
  obtain ⟨f, rfl⟩ : ∃ g, f = g + 1 := ⟨f - 1, by omega⟩
  rw [itS, if_neg (by rw [Tks.noSy h hk]; simp), List.append_nil]
  rfl
 | d :: r, f, p, acc, ks, hr, h, hk, hk2, hl, hf => by
  obtain ⟨f, rfl⟩ : ∃ g, f = g + 1 := ⟨f - 1, by omega⟩
  have e : tkS [(5, [44])] (d :: r) = (5, [44]) :: (tkD d ++ tkS [(5, [44])] r) := by rw [tkS, List.flatMap_cons]; rfl
  rw [e] at h ⊢
  rw [List.cons_append, List.append_assoc] at h
  simp only [List.length_cons] at hl hf
  have hnx : (tkS [(5, [44])] r ++ ks).head? ≠ some (5, [38]) := by
   cases r with
   | nil => exact hk2
   | cons d2 r2 =>
    have : tkS [(5, [44])] (d2 :: r2) = (5, [44]) :: (tkD d2 ++ tkS [(5, [44])] r2) := by rw [tkS, List.flatMap_cons]; rfl
    rw [this]; simp
  rw [itS, if_pos h.isS, if_neg (by omega), hr d (by simp) _ _ h.next hnx]
  simp only
  rw [it_tk r f _ _ ks (fun d hd => hr d (by simp [hd])) h.next.app hk hk2 (by simp; omega) (by omega)]
  simp only [List.length_cons, List.length_append, List.append_assoc, List.singleton_append]
  congr 2
  omega
theorem kids_of {op : Int} {kids : List Ds} (h : kidsB op kids = true) : (op = 5 → kids.length = 1) ∧ (op = 7 → 2 ≤ kids.length) ∧ (op = 4 → 2 ≤ kids.length ∧ ∀ k ∈ kids, k.op ≠ 4) ∧ (leafOp op = true → kids = []) := by
 refine ⟨fun e => ?_, fun e => ?_, fun e => ?_, fun e => ?_⟩
 ·subst e
  exact of_decide_eq_true h
 ·subst e
  exact of_decide_eq_true h
 ·subst e
  have h' : (decide (2 ≤ kids.length) && !(kids.any fun k => decide (k.op = 4))) = true := h
  rw [Bool.and_eq_true, Bool.not_eq_true', List.any_eq_false] at h'
  exact ⟨of_decide_eq_true h'.1, fun k hk e => h'.2 k hk (decide_eq_true e)⟩
 ·unfold kidsB at h
  rw [if_pos e] at h
  exact List.eq_nil_of_length_eq_zero (of_decide_eq_true h)
theorem tk_head : ∀ (d : Ds) (lv : Nat), checkE d lv = 0 → ∃ t q, tkD d = t :: q ∧ t ≠ (5, [46]) ∧ t ≠ (5, [62]) ∧ t ≠ (5, [33, 62])
 | .mk op name path kids, lv, h => by
  obtain ⟨_, _, _, o1, o8, hf, hk⟩ := check_parts h
  obtain ⟨f1, f2, f3, f4⟩ := form_parts hf
  rw [tkD]
  split
  ·exact ⟨_, _, rfl, by simp, by simp, by simp⟩
  ·split
   ·exact ⟨_, _, rfl, by simp, by simp, by simp⟩
   ·split
    ·exact ⟨_, _, rfl, by simp, by simp, by simp⟩
    ·split
     ·rename_i e
      subst e
      cases kids with
      | nil => exact absurd f4 (by decide)
      | cons k r =>
       obtain ⟨t, q, e, h1, h2, h3⟩ := tk_head k _ (checkL_cons hk).1
       rw [tkL, e]
       exact ⟨t, _, rfl, h1, h2, h3⟩
     ·split
      ·exact ⟨_, _, rfl, by simp, by simp, by simp⟩
      ·split
       ·exact ⟨_, _, rfl, by simp, by simp, by simp⟩
       ·split
        ·exact ⟨_, _, rfl, by simp, by simp, by simp⟩
        ·exact ⟨_, _, rfl, by simp, by simp, by simp⟩
theorem tkS_len (sep : List KT) : ∀ r : List Ds, sep ≠ [] → r.length ≤ (tkS sep r).length
 | [], _ => Nat.zero_le _
 | d :: r, h => by
  have e : tkS sep (d :: r) = sep ++ tkD d ++ tkS sep r := by rw [tkS, List.flatMap_cons]; rfl
  have ih := tkS_len sep r h
  have : 1 ≤ sep.length := by cases sep with
   | nil => exact absurd rfl h
   | cons _ _ => simp
  rw [e, List.length_append, List.length_append, List.length_cons]
  omega
theorem checkL_all : ∀ {r : List Ds} {lv : Nat}, checkL r lv = 0 → ∀ k ∈ r, checkE k lv = 0
 | [], lv, _, k, hk => by cases hk
 | d :: r, lv, h, k, hk => by
  obtain ⟨h1, h2⟩ := checkL_cons h
  rcases List.mem_cons.1 hk with e | e
  ·rw [e]; exact h1
  ·exact checkL_all h2 k e
theorem term_tk {rec : Nat → Res Ds} {k : Ds} {lv : Nat} (hc : checkE k lv = 0) (h4 : k.op ≠ 4) (hr : ∀ d, checkE d (lv + 1) = 0 → Reads l rec d) {p : Nat} {ks : List KT} (h : Tks l p (tkD k ++ ks)) (parts : List Ds) :
  termS l rec p parts = .ok (parts ++ [k], p + (tkD k).length) := by
 obtain ⟨op, name, path, kids⟩ := k
 obtain ⟨_, p64, k256, o1, o8, hf, hk⟩ := check_parts hc
 obtain ⟨f1, f2, f3, f4⟩ := form_parts hf
 obtain ⟨k5, k7, _, kl⟩ := kids_of f4
 have h4' : op ≠ 4 := h4
 rw [if_neg h4'] at hk
 have hkid : ∀ d ∈ kids, checkE d (lv + 1) = 0 := checkL_all hk
 have hrk : ∀ d ∈ kids, Reads l rec d := fun d hd => hr d (hkid d hd)
 have path0 : op ≠ 5 → path = [] := fun e => by
  cases path with
  | nil => rfl
  | cons s r => exact absurd (f2.2 (by simp)) e
 rw [tkD] at h ⊢
 by_cases e1 : op = 1
 ·subst e1
  have hk0 := kl rfl
  have hp0 := path0 (by decide)
  subst hk0; subst hp0
  rw [if_pos rfl] at h ⊢
  unfold termS
  rw [Tks.tok h]
  simp [bs_data]
 rw [if_neg e1] at h ⊢
 by_cases e2 : op = 2
 ·subst e2
  have hk0 := kl rfl
  have hp0 := path0 (by decide)
  subst hk0; subst hp0
  rw [if_pos rfl] at h ⊢
  have h' : Tks l p ((5, [64]) :: ((1, name.data.toList) :: ks)) := h
  unfold termS
  rw [h'.tok, h'.next.tak]
  simp [bs_data, moreS, nameS]
 rw [if_neg e2] at h ⊢
 by_cases e3 : op = 3
 ·subst e3
  have hk0 := kl rfl
  have hp0 := path0 (by decide)
  subst hk0; subst hp0
  rw [if_pos rfl] at h ⊢
  have h' : Tks l p ((5, [35]) :: ((1, name.data.toList) :: ks)) := h
  unfold termS
  rw [h'.tok, h'.next.tak]
  simp [bs_data, moreS, nameS]
 rw [if_neg e3, if_neg h4'] at h ⊢
 have name0 : name = ⟨#[]⟩ := by
  have : leafOp op = false := by simp [leafOp, e1, e2, e3]
  rw [this] at f1
  exact size_zero f1
 subst name0
 by_cases e5 : op = 5
 ·subst e5
  rw [if_pos rfl] at h ⊢
  obtain ⟨d, rfl⟩ : ∃ d, kids = [d] := by
   have := k5 rfl
   cases kids with
   | nil => simp at this
   | cons d r => cases r with
    | nil => exact ⟨d, rfl⟩
    | cons _ _ => simp at this
  obtain ⟨s, r, rfl⟩ : ∃ s r, path = s :: r := by
   have := f2.1 rfl
   cases path with
   | nil => simp at this
   | cons s r => exact ⟨s, r, rfl⟩
  have etk : tkL [] [] [d] = tkD d := by rw [tkL, tkL]; simp [sepOf]
  rw [etk, tkP_cons] at h ⊢
  simp only [List.cons_append, List.append_assoc, List.nil_append] at h
  unfold termS
  rw [h.tok]
  simp only [if_neg (show ¬ (5 : Int) = 1 by decide), ne_eq, not_true_eq_false, if_false, if_neg (show ¬ ([91] : List UInt8) = [64] by decide), if_neg (show ¬ ([91] : List UInt8) = [35] by decide), if_true]
  have hb := h.next
  have hlen := h.len
  rw [brS]
  have hp : pairS l rec (p + 1) = .ok (.mk 5 ⟨#[]⟩ (s :: r) [d], p + 2 + (tkF r).length + (tkD d).length) := by
   unfold pairS
   rw [hb.tak]
   simp only
   rw [bs_data]
   have hp2 := path_tk r (l.length + 1) (p + 1 + 1) [s] (tkD d ++ ((5, [93]) :: ks)) hb.next (by
    cases hd : tkD d ++ (5, [93]) :: ks with
    | nil => simp
    | cons t q =>
     have hne := tk_head d (lv + 1) (hkid d (by simp))
     obtain ⟨t0, q0, e0, h46, _, _⟩ := hne
     rw [e0] at hd
     injection hd with hd _
     rw [← hd]
     simpa using h46) (by simp at p64 ⊢; omega) (by
    simp only [List.length_cons, List.length_append, tkF_len] at hlen
    omega)
   rw [hp2]
   simp only
   have h3 := hb.next.app
   rw [hrk d (by simp) _ _ h3 (by simp)]
   simp only [List.singleton_append]
  rw [hp]
  simp only
  have h4 : Tks l (p + 2 + (tkF r).length + (tkD d).length) ((5, [93]) :: ks) := by
   have := hb.next.app.app
   exact this
  rw [if_neg (by rw [h4.noSy (by simp)]; simp), h4.skip]
  simp only [List.length_cons, List.length_append, List.length_nil]
  congr 2
  omega
 rw [if_neg e5] at h ⊢
 have hp0 := path0 e5
 subst hp0
 by_cases e6 : op = 6
 ·subst e6
  rw [if_pos rfl] at h ⊢
  simp only [List.cons_append, List.append_assoc, List.nil_append] at h
  unfold termS
  rw [h.tok]
  simp only [if_neg (show ¬ (5 : Int) = 1 by decide), ne_eq, not_true_eq_false, if_false, if_neg (show ¬ ([60] : List UInt8) = [64] by decide), if_neg (show ¬ ([60] : List UInt8) = [35] by decide), if_neg (show ¬ ([60] : List UInt8) = [91] by decide), if_true]
  have hb := h.next
  have hlen := h.len
  have hl : lstS l rec (p + 1) = .ok (.mk 6 ⟨#[]⟩ [] kids, p + ((5, [60]) :: (tkL [(5, [44])] [(5, [44])] kids ++ [(5, [62])])).length) := by
   unfold lstS
   rw [if_neg (by rw [List.length_cons, List.length_append, List.length_cons] at hlen; omega)]
   cases kids with
   | nil =>
    rw [tkL, List.nil_append] at hb
    rw [if_pos hb.isS, hb.close]; rfl
   | cons d r =>
    rw [tkL_same, List.append_assoc] at hb
    rw [tkL_same]
    obtain ⟨t0, q0, e0, _, h62, _⟩ := tk_head d (lv + 1) (hkid d (by simp))
    rw [if_neg (by rw [hb.noSy (by rw [e0]; simpa using h62)]; simp)]
    have hnx : (tkS [(5, [44])] r ++ ((5, [62]) :: ks)).head? ≠ some (5, [38]) := by
     cases r with
     | nil => simp [tkS]
     | cons d2 r2 =>
      have : tkS [(5, [44])] (d2 :: r2) = (5, [44]) :: (tkD d2 ++ tkS [(5, [44])] r2) := by rw [tkS, List.flatMap_cons]; rfl
      rw [this]; simp
    rw [hrk d (by simp) _ _ hb hnx]
    simp only
    rw [it_tk r (l.length + 1) _ [d] _ (fun x hx => hrk x (by simp [hx])) hb.app (by simp) (by simp) (by simp at k256 ⊢; omega) (by
     have h1 := tkS_len [(5, [44])] r (by simp)
     rw [List.length_cons, tkL_same, List.length_append, List.length_append] at hlen
     omega)]
    simp only
    have h4 := hb.app.app
    rw [if_neg (by rw [h4.noSy (by simp)]; simp), h4.close]
    simp only [List.singleton_append, List.length_cons, List.length_append, List.length_nil]
    congr 2
    omega
  rw [hl]
  simp [moreS]
 rw [if_neg e6] at h ⊢
 by_cases e7 : op = 7
 ·subst e7
  rw [if_pos rfl] at h ⊢
  simp only [List.cons_append, List.append_assoc, List.nil_append] at h
  unfold termS
  rw [h.tok]
  simp only [if_neg (show ¬ (5 : Int) = 1 by decide), ne_eq, not_true_eq_false, if_false, if_neg (show ¬ ([60] : List UInt8) = [64] by decide), if_neg (show ¬ ([60] : List UInt8) = [35] by decide), if_neg (show ¬ ([60] : List UInt8) = [91] by decide), if_true]
  have hb := h.next
  have hlen := h.len
  obtain ⟨d, r, z, rfl⟩ : ∃ d r z, kids = d :: (r ++ [z]) := by
   have := k7 rfl
   cases kids with
   | nil => simp at this
   | cons d r =>
    rcases List.eq_nil_or_concat r with e | ⟨r', z, e⟩
    ·subst e; simp at this
    ·exact ⟨d, r', z, by rw [e]; simp⟩
  have hl : lstS l rec (p + 1) = .ok (.mk 7 ⟨#[]⟩ [] (d :: (r ++ [z])), p + ((5, [60]) :: (tkL [(5, [44])] [(5, [124])] (d :: (r ++ [z])) ++ [(5, [62])])).length) := by
   unfold lstS
   rw [if_neg (by rw [List.length_cons, List.length_append, List.length_cons] at hlen; omega)]
   rw [tkL_last] at hb hlen
   rw [tkL_last]
   simp only [List.append_assoc] at hb
   obtain ⟨t0, q0, e0, _, h62, _⟩ := tk_head d (lv + 1) (hkid d (by simp))
   rw [if_neg (by rw [hb.noSy (by rw [e0]; simpa using h62)]; simp)]
   have hnx : (tkS [(5, [44])] r ++ ([(5, [124])] ++ (tkD z ++ ((5, [62]) :: ks)))).head? ≠ some (5, [38]) := by
    cases r with
    | nil => simp [tkS]
    | cons d2 r2 =>
     have : tkS [(5, [44])] (d2 :: r2) = (5, [44]) :: (tkD d2 ++ tkS [(5, [44])] r2) := by rw [tkS, List.flatMap_cons]; rfl
     rw [this]; simp
   rw [hrk d (by simp) _ _ hb hnx]
   simp only
   rw [it_tk r (l.length + 1) _ [d] _ (fun x hx => hrk x (by simp [hx])) hb.app (by simp) (by simp) (by simp at k256 ⊢; omega) (by
    have h1 := tkS_len [(5, [44])] r (by simp)
    simp only [List.length_cons, List.length_append] at hlen
    omega)]
   simp only
   have h4 := hb.app.app
   have h4' : Tks l (p + 1 + (tkD d).length + (tkS [(5, [44])] r).length) ((5, [124]) :: (tkD z ++ ((5, [62]) :: ks))) := h4
   rw [if_pos h4'.isS, if_neg (by simp at k256 ⊢; omega), hrk z (by simp) _ _ h4'.next (by simp)]
   simp only
   rw [h4'.next.app.close]
   simp only [List.singleton_append, List.cons_append, List.nil_append, List.length_cons, List.length_append, List.length_nil]
   congr 2
   omega
  rw [hl]
  simp [moreS]
 rw [if_neg e7] at h ⊢
 have e8 : op = 8 := by omega
 subst e8
 simp only [List.cons_append, List.append_assoc, List.nil_append] at h
 unfold termS
 rw [h.tok]
 simp only [if_neg (show ¬ (5 : Int) = 1 by decide), ne_eq, not_true_eq_false, if_false, if_neg (show ¬ ([60, 33] : List UInt8) = [64] by decide), if_neg (show ¬ ([60, 33] : List UInt8) = [35] by decide), if_neg (show ¬ ([60, 33] : List UInt8) = [91] by decide), if_neg (show ¬ ([60, 33] : List UInt8) = [60] by decide), if_true]
 have hb := h.next
 have hlen := h.len
 have hl : dffS l rec (p + 1) = .ok (.mk 8 ⟨#[]⟩ [] kids, p + ((5, [60, 33]) :: (tkL [(5, [44])] [(5, [44])] kids ++ [(5, [33, 62])])).length) := by
  unfold dffS
  rw [if_neg (by rw [List.length_cons, List.length_append, List.length_cons] at hlen; omega)]
  cases kids with
  | nil =>
   rw [tkL, List.nil_append] at hb
   rw [if_pos hb.isS, hb.close]; rfl
  | cons d r =>
   rw [tkL_same, List.append_assoc] at hb
   rw [tkL_same]
   obtain ⟨t0, q0, e0, _, _, h33⟩ := tk_head d (lv + 1) (hkid d (by simp))
   rw [if_neg (by rw [hb.noSy (by rw [e0]; simpa using h33)]; simp)]
   have hnx : (tkS [(5, [44])] r ++ ((5, [33, 62]) :: ks)).head? ≠ some (5, [38]) := by
    cases r with
    | nil => simp [tkS]
    | cons d2 r2 =>
     have : tkS [(5, [44])] (d2 :: r2) = (5, [44]) :: (tkD d2 ++ tkS [(5, [44])] r2) := by rw [tkS, List.flatMap_cons]; rfl
     rw [this]; simp
   rw [hrk d (by simp) _ _ hb hnx]
   simp only
   rw [it_tk r (l.length + 1) _ [d] _ (fun x hx => hrk x (by simp [hx])) hb.app (by simp) (by simp) (by simp at k256 ⊢; omega) (by
    have h1 := tkS_len [(5, [44])] r (by simp)
    rw [List.length_cons, tkL_same, List.length_append, List.length_append] at hlen
    omega)]
   simp only
   rw [hb.app.app.close]
   simp only [List.singleton_append, List.length_cons, List.length_append, List.length_nil]
   congr 2
   omega
 rw [hl]
 simp [moreS]
theorem and_tk {rec : Nat → Res Ds} {lv : Nat} (hr : ∀ d, checkE d (lv + 1) = 0 → Reads l rec d) : ∀ (r : List Ds) (f p : Nat) (acc : List Ds) (ks : List KT), (∀ k ∈ r, checkE k lv = 0 ∧ k.op ≠ 4) → Tks l p (tkS [(5, [38])] r ++ ks) → ks.head? ≠ some (5, [38]) → acc.length + r.length ≤ 256 → r.length < f →
  andS l rec f p acc = .ok (acc ++ r, p + (tkS [(5, [38])] r).length)
 | [], f, p, acc, ks, _, h, hk, hl, hf => by
  obtain ⟨f, rfl⟩ : ∃ g, f = g + 1 := ⟨f - 1, by omega⟩
  rw [andS, if_neg (by rw [Tks.noSy h hk]; simp), List.append_nil]
  rfl
 | d :: r, f, p, acc, ks, hd, h, hk, hl, hf => by
  obtain ⟨f, rfl⟩ : ∃ g, f = g + 1 := ⟨f - 1, by omega⟩
  have e : tkS [(5, [38])] (d :: r) = (5, [38]) :: (tkD d ++ tkS [(5, [38])] r) := by rw [tkS, List.flatMap_cons]; rfl
  rw [e] at h ⊢
  rw [List.cons_append, List.append_assoc] at h
  simp only [List.length_cons] at hl hf
  obtain ⟨d1, d2⟩ := hd d (by simp)
  rw [andS, if_pos h.isS, if_neg (by omega), term_tk d1 d2 hr h.next]
  simp only
  rw [and_tk hr r f _ _ ks (fun d h => hd d (by simp [h])) h.next.app hk (by simp; omega) (by omega)]
  simp only [List.length_cons, List.length_append, List.append_assoc, List.singleton_append]
  congr 2
  omega
def partsD (d : Ds) : List Ds := if d.op = 4 then d.kids else [d]
theorem checkL_of : ∀ {r : List Ds} {lv : Nat}, (∀ k ∈ r, checkE k lv = 0) → checkL r lv = 0
 | [], lv, _ => by rw [checkL]
 | d :: r, lv, h => by
  rw [checkL, if_neg (by simpa using h d (by simp))]
  exact checkL_of fun k hk => h k (by simp [hk])
theorem parts_ok {d : Ds} {lv : Nat} (h : checkE d lv = 0) : (∀ k ∈ partsD d, checkE k lv = 0 ∧ k.op ≠ 4) ∧ partsD d ≠ [] ∧ (partsD d).length ≤ 256 ∧ oneS (partsD d) = d ∧ tkD d = tkL [(5, [38])] [(5, [38])] (partsD d) ∧ wrD d = wrL [32, 38, 32] [32, 38, 32] (partsD d) := by
 obtain ⟨op, name, path, kids⟩ := d
 obtain ⟨_, _, k256, _, _, hf, hk⟩ := check_parts h
 obtain ⟨f1, f2, f3, f4⟩ := form_parts hf
 by_cases e4 : op = 4
 ·subst e4
  have e : partsD (.mk 4 name path kids) = kids := rfl
  rw [e]
  obtain ⟨_, _, k4, _⟩ := kids_of f4
  obtain ⟨k2, kn⟩ := k4 rfl
  have hp : path = [] := by
   cases path with
   | nil => rfl
   | cons s r => exact absurd (f2.2 (by simp)) (by decide)
  have hn : name = ⟨#[]⟩ := size_zero f1
  subst hp; subst hn
  refine ⟨fun k hk' => ⟨checkL_all hk k hk', kn k hk'⟩, fun e => by rw [e] at k2; simp at k2, k256, ?_, ?_, ?_⟩
  ·cases kids with
   | nil => simp at k2
   | cons a r => cases r with
    | nil => simp at k2
    | cons b r => rfl
  ·rw [tkD]; simp
  ·rw [wrD]; simp
 ·have e : partsD (.mk op name path kids) = [.mk op name path kids] := if_neg e4
  rw [e]
  refine ⟨fun k hk' => ?_, by simp, by simp, rfl, ?_, ?_⟩
  ·rw [List.mem_singleton.1 hk']; exact ⟨h, e4⟩
  ·rw [tkL, tkL]; simp [sepOf]
  ·rw [wrL, wrL]; simp [sepOf]
theorem des_tk : ∀ (n : Nat) (d : Ds), n ≤ 64 → checkE d (65 - n) = 0 → Reads l (desS l n) d
 | 0, d, _, h => by
  obtain ⟨op, name, path, kids⟩ := d
  have := (check_parts h).1
  omega
 | n + 1, d, hn, h => fun p ks ht hk => by
  have hr : ∀ d, checkE d ((65 - (n + 1)) + 1) = 0 → Reads l (desS l n) d := fun d hd => des_tk n d (by omega) (by rw [show 65 - n = (65 - (n + 1)) + 1 by omega]; exact hd)
  obtain ⟨p1, p2, p3, p4, p5, _⟩ := parts_ok h
  cases hp : partsD d with
  | nil => exact absurd hp p2
  | cons a r =>
   rw [hp] at p1 p3 p4 p5
   rw [tkL_same] at p5
   rw [p5, List.append_assoc] at ht
   obtain ⟨a1, a2⟩ := p1 a (by simp)
   have hlen := ht.len
   obtain ⟨t0, q0, e0, _⟩ := tk_head a _ a1
   have hpos : 1 ≤ (tkD a).length := by rw [e0]; simp
   rw [List.length_append, List.length_append] at hlen
   have h1 := tkS_len [(5, [38])] r (by simp)
   rw [desS, if_neg (by omega), term_tk a1 a2 hr ht]
   simp only [List.nil_append]
   rw [and_tk hr r (l.length + 1) _ [a] ks (fun k hk => p1 k (by simp [hk])) ht.app hk (by simp at p3 ⊢; omega) (by omega)]
   simp only [List.singleton_append]
   rw [p4, p5, List.length_append, Nat.add_assoc]
end
variable {q : Gl}
def gRn (ts : List T) : Option T := match ts with
 | [.v (.string s)] => if s.size ≤ lim then some (bv (isNamed false s)) else none
 | _ => none
theorem hRn : GOK Tryz.prog (G q) 77 gRn := fun args r h => by
 unfold gRn at h
 split at h
 ·split at h
  ·injection h with h; subst h; exact rname_call _ (by assumption)
  ·cases h
 ·cases h
theorem named_empty {b : Bool} {s : ByteArray} (h : s.size = 0) : isNamed b s = false := by
 unfold isNamed
 split
 ·rfl
 ·rename_i c r e
  have h2 : s.data.toList.length = s.size := rfl
  rw [e, h] at h2
  simp at h2
noncomputable def gCh (m : Nat) (ts : List T) : Option T := g2 tD tInt (fun d lv => open Classical in if Sized d ∧ d.depth ≤ m ∧ 0 ≤ lv ∧ lv ≤ 65 then some (iv (checkE d lv.toNat)) else none) ts
theorem gCh_eq {m : Nat} {c : List T} {d : Ds} (h : Abs.IsD d c) (hs : Sized d) (hd : d.depth ≤ m) {lv : Nat} (hl : lv ≤ 65) : gCh m [.ag c, iv (lv : Int)] = some (iv (checkE d lv)) := by
 show g2 _ _ _ _ = _
 rw [g2_eq (τ := tD) (σ := tInt) (x := d) (y := (lv : Int)) ⟨c, rfl, h⟩ rfl, if_pos ⟨hs, hd, by omega, by omega⟩, Int.toNat_natCast]
noncomputable def gCheck (ts : List T) : Option T := g1 tD (fun d => open Classical in if Sized d then some (iv (checkE d 1)) else none) ts
theorem gCheck_eq {c : List T} {d : Ds} (h : Abs.IsD d c) (hs : Sized d) : gCheck [.ag c] = some (iv (checkE d 1)) := by
 show g1 _ _ _ = _
 rw [g1_eq (τ := tD) (x := d) ⟨c, rfl, h⟩]
 exact if_pos hs
end Go.Proofs.YtjkkgbdoeaihmaaGreatDoor
