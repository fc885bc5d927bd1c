/-
 Auxiliary facts. No statement of the program stands here.
-/
import Derived.Test.YtjkkgbdoeaihmaaGreatDoorUBQ24
import Derived.Test.YtjkkgbdoeaihmaaGreatDoorUBQ31
namespace Go.Proofs.YtjkkgbdoeaihmaaGreatDoor
set_option linter.unusedSimpArgs false
set_option linter.unusedVariables false
open Go Go.Abs
section
variable {l : List KT} {rec rec' : Nat -> Res Ds} {k : Nat}
theorem isSy_take (p : Nat) (s : List UInt8) : isSy (l.take k) p s = (decide (p < k) && isSy l p s) := by
 unfold isSy
 rw [List.getElem?_take]
 by_cases h : p < k
 ·rw [if_pos h, decide_eq_true h, Bool.true_and]
 ·rw [if_neg h, decide_eq_false h]; rfl
theorem isSy_take_lt {p : Nat} (s : List UInt8) (h : p < k) : isSy (l.take k) p s = isSy l p s := by rw [isSy_take, decide_eq_true h, Bool.true_and]
theorem isSy_take_no {p : Nat} {s : List UInt8} (h : ¬ isSy l p s = true) : ¬ isSy (l.take k) p s = true := by
 rw [isSy_take]
 cases hs : isSy l p s with
 | true => exact absurd hs h
 | false => simp
theorem take_take' {p : Nat} (j : Int) (h : p < k) : takeK (l.take k) p j = takeK l p j := by
 unfold takeK
 rw [List.getElem?_take, if_pos h]
theorem skip_take {p p' : Nat} {s : List UInt8} (h : skipK l p s = .ok p') (hk : p' <= k) : skipK (l.take k) p s = .ok p' := by
 obtain ⟨e, hl⟩ := skip_fwd h
 unfold skipK at h ⊢
 rw [if_neg (by omega)] at h
 rw [if_neg (by rw [List.length_take]; omega), isSy_take_lt s (by omega)]
 exact h
def Upto (k : Nat) (rec rec' : Nat -> Res Ds) : Prop := ∀ p d p', rec p = .ok (d, p') -> p' <= k -> rec' p = .ok (d, p')
theorem path_take : ∀ (f f' p : Nat) (path path' : List ByteArray) (p' : Nat), pathS l f p path = .ok (path', p') -> path.length <= 64 -> p' <= k -> k - p < f' -> pathS (l.take k) f' p path = .ok (path', p')
 | 0, _, p, path, path', p', h, _, _, _ => by cases h
 | f + 1, 0, p, path, path', p', h, _, _, hf => by omega
 | f + 1, f' + 1, p, path, path', p', h, h64, hk, hf => by
  rw [pathS] at h ⊢
  split at h
  ·rename_i hs
   split at h
   ·cases h
   ·rename_i hl
    split at h
    ·cases h
    ·rename_i s p1 h1
     obtain ⟨e1, h2⟩ := take_fwd h1
     have h3 := path_fwd _ _ _ _ _ h (by simp; omega)
     rw [isSy_take_lt _ (by omega), if_pos hs, if_neg hl, take_take' _ (by omega), h1]
     exact path_take f f' _ _ _ _ h (by simp; omega) hk (by omega)
  ·rename_i hs
   rw [if_neg (isSy_take_no hs)]
   exact h
theorem pair_take (hkl : k <= l.length) (hr : Fwd l rec) (hu : Upto k rec rec') {p p' : Nat} {d : Ds} (h : pairS l rec p = .ok (d, p')) (hk : p' <= k) : pairS (l.take k) rec' p = .ok (d, p') := by
 unfold pairS at h ⊢
 split at h
 ·cases h
 ·rename_i s p1 h1
  obtain ⟨e1, h2⟩ := take_fwd h1
  split at h
  ·cases h
  ·rename_i path p2 h3
   have h4 := path_fwd _ _ _ _ _ h3 (by simp)
   split at h
   ·cases h
   ·rename_i d' p3 h5
    have h6 := hr _ _ _ h5
    injection h with h; injection h with e e2; subst e; subst e2
    rw [take_take' _ (by omega), h1]
    simp only
    rw [path_take (l.length + 1) _ p1 [s] path p2 h3 (by simp) (by omega) (by rw [List.length_take]; omega)]
    simp only
    rw [hu _ _ _ h5 hk]
theorem br_take (hkl : k <= l.length) (hr : Fwd l rec) (hu : Upto k rec rec') : ∀ (f f' p : Nat) (parts parts' : List Ds) (p' : Nat), brS l rec f p parts = .ok (parts', p') -> p' <= k -> k - p < f' -> brS (l.take k) rec' f' p parts = .ok (parts', p')
 | 0, _, p, parts, parts', p', h, _, _ => by cases h
 | f + 1, 0, p, parts, parts', p', h, _, hf => by omega
 | f + 1, f' + 1, p, parts, parts', p', h, hk, hf => by
  rw [brS] at h ⊢
  split at h
  ·cases h
  ·rename_i d p1 h1
   have h2 := pair_fwd hr h1
   split at h
   ·rename_i hs
    split at h
    ·cases h
    ·rename_i hl
     have h3 := br_fwd hr _ _ _ _ _ h
     rw [pair_take hkl hr hu h1 (by omega)]
     simp only
     rw [isSy_take_lt _ (by omega), if_pos hs, if_neg hl]
     exact br_take hkl hr hu f f' _ _ _ _ h hk (by omega)
   ·rename_i hs
    split at h
    ·cases h
    ·rename_i p2 h3
     have h4 := skip_fwd h3
     injection h with h; injection h with e e2; subst e; subst e2
     rw [pair_take hkl hr hu h1 (by omega)]
     simp only
     rw [if_neg (isSy_take_no hs), skip_take h3 hk]
theorem it_take (hr : Fwd l rec) (hu : Upto k rec rec') : ∀ (f f' p : Nat) (kids kids' : List Ds) (p' : Nat), itS l rec f p kids = .ok (kids', p') -> kids.length <= 256 -> p' <= k -> k - p < f' -> itS (l.take k) rec' f' p kids = .ok (kids', p')
 | 0, _, p, kids, kids', p', h, _, _, _ => by cases h
 | f + 1, 0, p, kids, kids', p', h, _, _, hf => by omega
 | f + 1, f' + 1, p, kids, kids', p', h, h256, hk, hf => by
  rw [itS] at h ⊢
  split at h
  ·rename_i hs
   split at h
   ·cases h
   ·rename_i hl
    split at h
    ·cases h
    ·rename_i d p1 h1
     have h2 := hr _ _ _ h1
     have h3 := it_fwd hr _ _ _ _ _ h (by simp; omega)
     rw [isSy_take_lt _ (by omega), if_pos hs, if_neg hl, hu _ _ _ h1 (by omega)]
     exact it_take hr hu f f' _ _ _ _ h (by simp; omega) hk (by omega)
  ·rename_i hs
   rw [if_neg (isSy_take_no hs)]
   exact h
theorem close_take {s : List UInt8} {op : Int} {kids : List Ds} {p p' : Nat} {d : Ds} (h : closeS l s op kids p = .ok (d, p')) (hk : p' <= k) : closeS (l.take k) s op kids p = .ok (d, p') := by
 unfold closeS at h ⊢
 split at h
 ·cases h
 ·rename_i p1 h1
  injection h with h; injection h with e e2; subst e; subst e2
  rw [skip_take h1 hk]
theorem lst_take (hkl : k <= l.length) (hr : Fwd l rec) (hu : Upto k rec rec') {p p' : Nat} {d : Ds} (h : lstS l rec p = .ok (d, p')) (hk : p' <= k) : lstS (l.take k) rec' p = .ok (d, p') := by
 have hp := lst_fwd hr h
 unfold lstS at h ⊢
 rw [if_neg (by rw [List.length_take]; omega), isSy_take_lt _ (by omega)]
 rw [if_neg (by omega)] at h
 split at h
 ·rename_i hs
  rw [if_pos hs]
  exact close_take h hk
 ·rename_i hs
  rw [if_neg hs]
  split at h
  ·cases h
  ·rename_i d1 p1 h1
   have h2 := hr _ _ _ h1
   split at h
   ·cases h
   ·rename_i kids p2 h3
    have h4 := it_fwd hr _ _ _ _ _ h3 (by simp)
    split at h
    ·rename_i hb
     split at h
     ·cases h
     ·rename_i hl
      split at h
      ·cases h
      ·rename_i d3 p3 h5
       have h6 := hr _ _ _ h5
       have h7 := close_fwd h
       rw [hu _ _ _ h1 (by omega)]
       simp only
       rw [it_take hr hu (l.length + 1) _ p1 [d1] kids p2 h3 (by simp) (by omega) (by rw [List.length_take]; omega)]
       simp only
       rw [isSy_take_lt _ (by omega), if_pos hb, if_neg hl, hu _ _ _ h5 (by omega)]
       exact close_take h hk
    ·rename_i hb
     have h7 := close_fwd h
     rw [hu _ _ _ h1 (by omega)]
     simp only
     rw [it_take hr hu (l.length + 1) _ p1 [d1] kids p2 h3 (by simp) (by omega) (by rw [List.length_take]; omega)]
     simp only
     rw [if_neg (isSy_take_no hb)]
     exact close_take h hk
theorem dff_take (hkl : k <= l.length) (hr : Fwd l rec) (hu : Upto k rec rec') {p p' : Nat} {d : Ds} (h : dffS l rec p = .ok (d, p')) (hk : p' <= k) : dffS (l.take k) rec' p = .ok (d, p') := by
 have hp := dff_fwd hr h
 unfold dffS at h ⊢
 rw [if_neg (by rw [List.length_take]; omega), isSy_take_lt _ (by omega)]
 rw [if_neg (by omega)] at h
 split at h
 ·rename_i hs
  rw [if_pos hs]
  exact close_take h hk
 ·rename_i hs
  rw [if_neg hs]
  split at h
  ·cases h
  ·rename_i d1 p1 h1
   have h2 := hr _ _ _ h1
   split at h
   ·cases h
   ·rename_i kids p2 h3
    have h4 := it_fwd hr _ _ _ _ _ h3 (by simp)
    have h7 := close_fwd h
    rw [hu _ _ _ h1 (by omega)]
    simp only
    rw [it_take hr hu (l.length + 1) _ p1 [d1] kids p2 h3 (by simp) (by omega) (by rw [List.length_take]; omega)]
    simp only
    exact close_take h hk
theorem moreS_ok {parts parts' : List Ds} {p' : Nat} {r : Res Ds} (h : moreS parts r = .ok (parts', p')) : ∃ d, r = .ok (d, p') /\ parts' = parts ++ [d] := by
 unfold moreS at h
 split at h
 ·cases h
 ·injection h with h; injection h with e1 e2; subst e1; subst e2
  exact ⟨_, rfl, rfl⟩
theorem name_take {op j : Int} {p p' : Nat} {d : Ds} (h : nameS op (takeK l p j) = .ok (d, p')) (hk : p' <= k) : nameS op (takeK (l.take k) p j) = .ok (d, p') := by
 have := name_fwd h
 rw [take_take' _ (by omega)]
 exact h
theorem term_take (hkl : k <= l.length) (hr : Fwd l rec) (hu : Upto k rec rec') {p p' : Nat} {parts parts' : List Ds} (h : termS l rec p parts = .ok (parts', p')) (hk : p' <= k) : termS (l.take k) rec' p parts = .ok (parts', p') := by
 have hp := term_fwd hr h
 unfold termS at h ⊢
 rw [List.getElem?_take, if_pos (by omega)]
 split at h
 ·cases h
 ·rename_i t ht
  split at h
  ·rename_i c; rw [if_pos c]; exact h
  ·rename_i c
   rw [if_neg c]
   split at h
   ·cases h
   ·rename_i c
    rw [if_neg c]
    split at h
    ·rename_i c
     rw [if_pos c]
     obtain ⟨d, h1, rfl⟩ := moreS_ok h
     rw [name_take h1 hk]; rfl
    ·rename_i c
     rw [if_neg c]
     split at h
     ·rename_i c
      rw [if_pos c]
      obtain ⟨d, h1, rfl⟩ := moreS_ok h
      rw [name_take h1 hk]; rfl
     ·rename_i c
      rw [if_neg c]
      split at h
      ·rename_i c
       rw [if_pos c]
       exact br_take hkl hr hu _ _ _ _ _ _ h hk (by rw [List.length_take]; omega)
      ·rename_i c
       rw [if_neg c]
       split at h
       ·rename_i c
        rw [if_pos c]
        obtain ⟨d, h1, rfl⟩ := moreS_ok h
        rw [lst_take hkl hr hu h1 hk]; rfl
       ·rename_i c
        rw [if_neg c]
        split at h
        ·rename_i c
         rw [if_pos c]
         obtain ⟨d, h1, rfl⟩ := moreS_ok h
         rw [dff_take hkl hr hu h1 hk]; rfl
        ·cases h
theorem and_take (hkl : k <= l.length) (hr : Fwd l rec) (hu : Upto k rec rec') : ∀ (f f' p : Nat) (parts parts' : List Ds) (p' : Nat), andS l rec f p parts = .ok (parts', p') -> parts.length <= 256 -> p' <= k -> k - p < f' -> andS (l.take k) rec' f' p parts = .ok (parts', p')
 | 0, _, p, parts, parts', p', h, _, _, _ => by cases h
 | f + 1, 0, p, parts, parts', p', h, _, _, hf => by omega
 | f + 1, f' + 1, p, parts, parts', p', h, h256, hk, hf => by
  rw [andS] at h ⊢
  split at h
  ·rename_i hs
   split at h
   ·cases h
   ·rename_i hl
    split at h
    ·cases h
    ·rename_i parts1 p1 h1
     have h2 := term_fwd hr h1
     have h3 := and_fwd hr _ _ _ _ _ h (by omega)
     rw [isSy_take_lt _ (by omega), if_pos hs, if_neg hl, term_take hkl hr hu h1 (by omega)]
     exact and_take hkl hr hu f f' _ _ _ _ h (by omega) hk (by omega)
  ·rename_i hs
   rw [if_neg (isSy_take_no hs)]
   exact h
theorem des_take (hkl : k <= l.length) : ∀ n, Upto k (desS l n) (desS (l.take k) n)
 | 0 => fun p d p' h _ => by
  rw [desS] at h
  split at h <;> cases h
 | n + 1 => fun p d p' h hk => by
  have hp := des_fwd (l := l) (n + 1) p d p' h
  rw [desS] at h ⊢
  rw [if_neg (by omega)] at h
  rw [if_neg (by rw [List.length_take]; omega)]
  split at h
  ·cases h
  ·rename_i parts p1 h1
   have h2 := term_fwd (des_fwd n) h1
   split at h
   ·cases h
   ·rename_i parts' p2 h3
    have h4 := and_fwd (des_fwd n) _ _ _ _ _ h3 (h2.2.2.2 (by simp))
    injection h with h; injection h with e e2; subst e; subst e2
    rw [term_take hkl (des_fwd n) (des_take hkl n) h1 (by omega)]
    simp only
    rw [and_take hkl (des_fwd n) (des_take hkl n) (l.length + 1) _ p1 parts parts' p2 h3 (h2.2.2.2 (by simp)) (by omega) (by rw [List.length_take]; omega)]
end
section
variable {l : List KT}
def KOK (t : KT) : Prop := (t.1 = 1 \/ t.1 = 2 -> t.2 ≠ []) /\ (t.1 = 1 -> isNamed false (bs t.2) = true) /\ (t.1 = 2 -> isNamed true (bs t.2) = true)
def Toks (l : List KT) : Prop := ∀ t ∈ l, KOK t
def tkl (t : KT) : Nat := if t.2 = [] then 1 else t.2.length
def Bt (l : List KT) (p : Nat) : Nat := ((l.take p).map tkl).sum
theorem bt_any {p : Nat} {t : KT} (h : l[p]? = some t) : Bt l (p + 1) = Bt l p + tkl t := by
 unfold Bt
 rw [List.take_add_one, h]
 simp
theorem bt_next {p : Nat} {t : KT} (h : l[p]? = some t) (hne : t.2 ≠ []) : Bt l (p + 1) = Bt l p + t.2.length := by
 rw [bt_any h]
 unfold tkl
 rw [if_neg hne]
theorem bt_le {p p' : Nat} (h : p <= p') : Bt l p <= Bt l p' := by
 unfold Bt
 obtain ⟨k, rfl⟩ : ∃ k, p' = p + k := ⟨p' - p, by omega⟩
 rw [List.take_add, List.map_append, List.sum_append]
 exact Nat.le_add_right _ _
theorem bt_lt (_ : Toks l) {p : Nat} (h : p < l.length) : Bt l p + 1 <= Bt l (p + 1) := by
 have ht : l[p]? = some l[p] := List.getElem?_eq_getElem h
 rw [bt_any ht]
 have : 1 <= tkl l[p] := by
  unfold tkl
  cases hh : (l[p]).2 with
  | nil => simp
  | cons _ _ => simp
 omega
structure Good (l : List KT) (lv : Nat) (d : Ds) (p p' : Nat) : Prop where
 ok : checkE d lv = 0
 len : (wrD d).length + 3 + 8 * Bt l p <= 8 * Bt l p'
def sumW (r : List Ds) : Nat := (r.map fun d => (wrD d).length + 3).sum
theorem sumW_app (a b : List Ds) : sumW (a ++ b) = sumW a + sumW b := by unfold sumW; rw [List.map_append, List.sum_append]
theorem sumW_one (d : Ds) : sumW [d] = (wrD d).length + 3 := by simp [sumW]
theorem wrL_len (sep last : List UInt8) (h1 : sep.length <= 3) (h2 : last.length <= 3) : ∀ r : List Ds, r ≠ [] -> (wrL sep last r).length + 3 <= sumW r
 | [], h => absurd rfl h
 | [d], _ => by rw [wrL, wrL, sumW_one]; simp [sepOf]
 | d :: d2 :: r, _ => by
  have ih := wrL_len sep last h1 h2 (d2 :: r) (by simp)
  have e : sumW (d :: d2 :: r) = (wrD d).length + 3 + sumW (d2 :: r) := by simp [sumW]
  have e2 : (sepOf sep last (d2 :: r)).length <= 3 := by cases r <;> assumption
  rw [wrL, e, List.length_append, List.length_append]
  omega
theorem take_tok {p p' : Nat} {k : Int} {s : ByteArray} (h : takeK l p k = .ok (s, p')) : ∃ t, l[p]? = some t /\ t.1 = k /\ s = bs t.2 /\ p' = p + 1 := by
 unfold takeK at h
 split at h
 ·cases h
 ·rename_i t ht
  split at h
  ·rename_i hk
   injection h with h; injection h with e1 e2
   exact ⟨t, ht, hk, e1.symm, e2.symm⟩
  ·cases h
theorem dotted_snoc (s : ByteArray) : ∀ path : List ByteArray, path ≠ [] -> (dotted (path ++ [s])).length = (dotted path).length + 1 + s.size
 | [], h => absurd rfl h
 | [a], _ => by
  have e : s.data.toList.length = s.size := rfl
  show (dotted [a, s]).length = _
  simp only [dotted, List.append_nil, List.length_append, List.length_cons, e]
  omega
 | a :: b :: r, _ => by
  have ih := dotted_snoc s (b :: r) (by simp)
  show (dotted (a :: b :: (r ++ [s]))).length = (dotted (a :: b :: r)).length + 1 + s.size
  rw [dotted, dotted]
  simp only [List.length_append, List.length_cons]
  have e : b :: (r ++ [s]) = b :: r ++ [s] := rfl
  rw [e, ih]
  omega
theorem path_good (hl : Toks l) : ∀ (f p : Nat) (path path' : List ByteArray) (p' : Nat), pathS l f p path = .ok (path', p') -> path ≠ [] -> path.length <= 64 -> path.all (isNamed true) = true ->
  path' ≠ [] /\ path'.length <= 64 /\ path'.all (isNamed true) = true /\ (dotted path').length + Bt l p <= (dotted path).length + Bt l p'
 | 0, p, path, path', p', h, _, _, _ => by cases h
 | f + 1, p, path, path', p', h, hne, h64, hall => by
  rw [pathS] at h
  split at h
  ·rename_i hs
   split at h
   ·cases h
   ·split at h
    ·cases h
    ·rename_i s p1 h1
     obtain ⟨t, ht, hk, rfl, rfl⟩ := take_tok h1
     have hn := (hl t (List.mem_of_getElem? ht)).2.2 hk
     obtain ⟨i1, i2, i3, i4⟩ := path_good hl f _ _ _ _ h (by simp) (by simp; omega) (by rw [List.all_append, hall]; simp [hn])
     refine ⟨i1, i2, i3, ?_⟩
     rw [dotted_snoc _ _ hne] at i4
     have e1 := bt_lt hl (isSy_lt hs)
     have e2 := bt_next ht ((hl t (List.mem_of_getElem? ht)).1 (.inr hk))
     have e3 : (bs t.2).size = t.2.length := rfl
     omega
  ·injection h with h; injection h with e1 e2; subst e1; subst e2
   exact ⟨hne, h64, hall, Nat.le_refl _⟩
theorem pair_good (hl : Toks l) {rec : Nat -> Res Ds} {lv : Nat} (hlv : lv <= 64) (hr : ∀ p d p', rec p = .ok (d, p') -> Good l (lv + 1) d p p') {p p' : Nat} {d : Ds} (h : pairS l rec p = .ok (d, p')) :
  checkE d lv = 0 /\ d.op ≠ 4 /\ (wrD d).length + 8 * Bt l p <= 8 * Bt l p' := by
 unfold pairS at h
 split at h
 ·cases h
 ·rename_i s p1 h1
  obtain ⟨t, ht, hk, rfl, rfl⟩ := take_tok h1
  have hn := (hl t (List.mem_of_getElem? ht)).2.2 hk
  split at h
  ·cases h
  ·rename_i path p2 h3
   obtain ⟨i1, i2, i3, i4⟩ := path_good hl _ _ _ _ _ h3 (by simp) (by simp) (by simp [hn])
   split at h
   ·cases h
   ·rename_i d' p3 h5
    have hg := hr _ _ _ h5
    injection h with h; injection h with e1 e2; subst e1; subst e2
    have hpos : 0 < path.length := by cases path with
     | nil => exact absurd rfl i1
     | cons _ _ => simp
    refine ⟨?_, (show (5 : Int) ≠ 4 by decide), ?_⟩
    ·rw [checkE, if_neg (by simp; omega)]
     have hf : formE 5 ⟨#[]⟩ path [d'] = 0 := by
      unfold formE formB
      rw [if_neg (by decide), i3]
      simp [leafOp, kidsB, hpos]
      rfl
     rw [hf]
     simp only [ne_eq, not_true_eq_false, if_false]
     rw [if_neg (by decide), checkL, if_neg (by rw [hg.ok]; simp), checkL]
    ·rw [wrD]
     simp only [if_neg (show ¬ (5 : Int) = 1 by decide), if_neg (show ¬ (5 : Int) = 2 by decide), if_neg (show ¬ (5 : Int) = 3 by decide), if_neg (show ¬ (5 : Int) = 4 by decide), if_true]
     rw [wrL, wrL]
     simp only [sepOf, List.append_nil, List.nil_append, List.length_cons, List.length_append, List.length_nil]
     have e1 := bt_next ht ((hl t (List.mem_of_getElem? ht)).1 (.inr hk))
     have e2 : (dotted [bs t.2]).length = t.2.length := by simp [dotted]
     have := hg.len
     rw [e2] at i4
     have h1t : 1 <= t.2.length := by
      have := (hl t (List.mem_of_getElem? ht)).1 (.inr hk)
      cases hh : t.2 with
      | nil => exact absurd hh this
      | cons _ _ => simp
     omega
theorem br_good (hl : Toks l) {rec : Nat -> Res Ds} {lv : Nat} (hlv : lv <= 64) (hf : Fwd l rec) (hr : ∀ p d p', rec p = .ok (d, p') -> Good l (lv + 1) d p p') : ∀ (f p : Nat) (parts parts' : List Ds) (p' : Nat), brS l rec f p parts = .ok (parts', p') ->
  ∃ more, parts' = parts ++ more /\ (∀ k ∈ more, checkE k lv = 0 /\ k.op ≠ 4) /\ sumW more + 8 * Bt l p <= 8 * Bt l p'
 | 0, p, parts, parts', p', h => by cases h
 | f + 1, p, parts, parts', p', h => by
  rw [brS] at h
  split at h
  ·cases h
  ·rename_i d p1 h1
   obtain ⟨g1, g2, g3⟩ := pair_good hl hlv hr h1
   split at h
   ·rename_i hs
    have hb := bt_lt hl (isSy_lt hs)
    split at h
    ·cases h
    ·obtain ⟨more, e, m1, m2⟩ := br_good hl hlv hf hr f _ _ _ _ h
     refine ⟨d :: more, by rw [e]; simp, fun k hk => ?_, ?_⟩
     ·rcases List.mem_cons.1 hk with e | e
      ·rw [e]; exact ⟨g1, g2⟩
      ·exact m1 k e
     ·have : sumW (d :: more) = (wrD d).length + 3 + sumW more := by simp [sumW]
      omega
   ·split at h
    ·cases h
    ·rename_i p2 h3
     obtain ⟨e1, h4⟩ := skip_fwd h3
     have hb := bt_lt hl h4
     injection h with h; injection h with e2 e3; subst e2; subst e3; subst e1
     refine ⟨[d], rfl, fun k hk => by rw [List.mem_singleton.1 hk]; exact ⟨g1, g2⟩, ?_⟩
     rw [sumW_one]
     omega
theorem it_good {rec : Nat -> Res Ds} {lv : Nat} (hr : ∀ p d p', rec p = .ok (d, p') -> Good l (lv + 1) d p p') : ∀ (f p : Nat) (kids kids' : List Ds) (p' : Nat), itS l rec f p kids = .ok (kids', p') -> kids.length <= 256 ->
  kids'.length <= 256 /\ ∃ more, kids' = kids ++ more /\ (∀ k ∈ more, checkE k (lv + 1) = 0) /\ sumW more + 8 * Bt l p <= 8 * Bt l p'
 | 0, p, kids, kids', p', h, _ => by cases h
 | f + 1, p, kids, kids', p', h, h256 => by
  rw [itS] at h
  split at h
  ·split at h
   ·cases h
   ·split at h
    ·cases h
    ·rename_i d p1 h1
     have hg := hr _ _ _ h1
     obtain ⟨i0, more, e, m1, m2⟩ := it_good hr f _ _ _ _ h (by simp; omega)
     refine ⟨i0, d :: more, by rw [e]; simp, fun k hk => ?_, ?_⟩
     ·rcases List.mem_cons.1 hk with e | e
      ·rw [e]; exact hg.ok
      ·exact m1 k e
     ·have : sumW (d :: more) = (wrD d).length + 3 + sumW more := by simp [sumW]
      have h2 := hg.len
      have h3 := bt_le (l := l) (show p <= p + 1 by omega)
      omega
  ·injection h with h; injection h with e1 e2; subst e1; subst e2
   exact ⟨h256, [], by simp, fun k hk => (by cases hk), by simp [sumW]⟩
theorem close_good {s : List UInt8} {op : Int} {kids : List Ds} {p p' : Nat} {d : Ds} (h : closeS l s op kids p = .ok (d, p')) : d = .mk op ⟨#[]⟩ [] kids /\ p' = p + 1 /\ p < l.length := by
 have h0 := close_fwd h
 unfold closeS at h
 split at h
 ·cases h
 ·injection h with h; injection h with e _
  exact ⟨e.symm, h0⟩
theorem list_ok {op : Int} {kids : List Ds} {lv : Nat} (hlv : lv <= 64) (h256 : kids.length <= 256) (ho : op = 6 \/ op = 8 \/ (op = 7 /\ 2 <= kids.length)) (hk : ∀ k ∈ kids, checkE k (lv + 1) = 0) : checkE (.mk op ⟨#[]⟩ [] kids) lv = 0 := by
 have hf : formE op ⟨#[]⟩ [] kids = 0 := by
  unfold formE formB
  rcases ho with rfl | rfl | ⟨rfl, h2⟩
  ·rw [if_neg (by decide)]; rfl
  ·rw [if_neg (by decide)]; rfl
  ·rw [if_neg (by decide)]
   simp [leafOp, kidsB, h2]
   rfl
 rw [checkE, if_neg (by simp; omega), hf]
 simp only [ne_eq, not_true_eq_false, if_false]
 rw [if_neg (by omega)]
 exact checkL_of hk
theorem lst_good (hl : Toks l) {rec : Nat -> Res Ds} {lv : Nat} (hlv : lv <= 64) (hf : Fwd l rec) (hr : ∀ p d p', rec p = .ok (d, p') -> Good l (lv + 1) d p p') {p p' : Nat} {d : Ds} (h : lstS l rec p = .ok (d, p')) :
  checkE d lv = 0 /\ d.op ≠ 4 /\ (wrD d).length + 8 * Bt l p <= 8 * Bt l p' := by
 unfold lstS at h
 split at h
 ·cases h
 ·split at h
  ·obtain ⟨rfl, rfl, h2⟩ := close_good h
   have hb := bt_lt hl h2
   refine ⟨list_ok hlv (by simp) (.inl rfl) (fun k hk => by cases hk), by decide, ?_⟩
   have : (wrD (.mk 6 ⟨#[]⟩ [] [])).length = 2 := by rw [wrD, wrL]; rfl
   omega
  ·split at h
   ·cases h
   ·rename_i d1 p1 h1
    have hg := hr _ _ _ h1
    split at h
    ·cases h
    ·rename_i kids p2 h3
     obtain ⟨i0, more, e, m1, m2⟩ := it_good hr _ _ _ _ _ h3 (by simp)
     have hkids : ∀ k ∈ kids, checkE k (lv + 1) = 0 := by
      intro k hk
      rw [e] at hk
      rcases List.mem_append.1 hk with h | h
      ·rw [List.mem_singleton.1 h]; exact hg.ok
      ·exact m1 k h
     have hsum : sumW kids = (wrD d1).length + 3 + sumW more := by rw [e, sumW_app, sumW_one]
     have hne : kids ≠ [] := by rw [e]; simp
     have h5 := hg.len
     split at h
     ·rename_i hb
      have hb1 := bt_lt hl (isSy_lt hb)
      split at h
      ·cases h
      ·split at h
       ·cases h
       ·rename_i d3 p3 h6
        have hg3 := hr _ _ _ h6
        have h7 := hg3.len
        obtain ⟨rfl, rfl, h8⟩ := close_good h
        have hb2 := bt_lt hl h8
        refine ⟨list_ok hlv (by simp; omega) (.inr (.inr ⟨rfl, ?_⟩)) (fun k hk => ?_), (show (7 : Int) ≠ 4 by decide), ?_⟩
        ·rw [List.length_append, e]; simp
        ·rcases List.mem_append.1 hk with h | h
         ·exact hkids k h
         ·rw [List.mem_singleton.1 h]; exact hg3.ok
        ·have hw := wrL_len [44, 32] [32, 124, 32] (by decide) (by decide) (kids ++ [d3]) (by simp)
         rw [sumW_app, sumW_one] at hw
         have : (wrD (.mk 7 ⟨#[]⟩ [] (kids ++ [d3]))).length = (wrL [44, 32] [32, 124, 32] (kids ++ [d3])).length + 2 := by
          rw [wrD]
          simp only [if_neg (show ¬ (7 : Int) = 1 by decide), if_neg (show ¬ (7 : Int) = 2 by decide), if_neg (show ¬ (7 : Int) = 3 by decide), if_neg (show ¬ (7 : Int) = 4 by decide), if_neg (show ¬ (7 : Int) = 5 by decide), if_neg (show ¬ (7 : Int) = 6 by decide), if_true]
          simp
         omega
     ·obtain ⟨rfl, rfl, h8⟩ := close_good h
      have hb2 := bt_lt hl h8
      refine ⟨list_ok hlv i0 (.inl rfl) hkids, (show (6 : Int) ≠ 4 by decide), ?_⟩
      have hw := wrL_len [44, 32] [44, 32] (by decide) (by decide) kids hne
      have : (wrD (.mk 6 ⟨#[]⟩ [] kids)).length = (wrL [44, 32] [44, 32] kids).length + 2 := by
       rw [wrD]
       simp only [if_neg (show ¬ (6 : Int) = 1 by decide), if_neg (show ¬ (6 : Int) = 2 by decide), if_neg (show ¬ (6 : Int) = 3 by decide), if_neg (show ¬ (6 : Int) = 4 by decide), if_neg (show ¬ (6 : Int) = 5 by decide), if_true]
       simp
      omega
theorem dff_good (hl : Toks l) {rec : Nat -> Res Ds} {lv : Nat} (hlv : lv <= 64) (hf : Fwd l rec) (hr : ∀ p d p', rec p = .ok (d, p') -> Good l (lv + 1) d p p') {p p' : Nat} {d : Ds} (h : dffS l rec p = .ok (d, p')) :
  checkE d lv = 0 /\ d.op ≠ 4 /\ (wrD d).length + 8 * Bt l p <= 8 * Bt l p' := by
 have w8 : ∀ kids : List Ds, (wrD (.mk 8 ⟨#[]⟩ [] kids)).length <= (wrL [44, 32] [44, 32] kids).length + 6 := by
  intro kids
  rw [wrD]
  simp only [if_neg (show ¬ (8 : Int) = 1 by decide), if_neg (show ¬ (8 : Int) = 2 by decide), if_neg (show ¬ (8 : Int) = 3 by decide), if_neg (show ¬ (8 : Int) = 4 by decide), if_neg (show ¬ (8 : Int) = 5 by decide), if_neg (show ¬ (8 : Int) = 6 by decide), if_neg (show ¬ (8 : Int) = 7 by decide)]
  split
  ·simp
  ·simp
 unfold dffS at h
 split at h
 ·cases h
 ·split at h
  ·obtain ⟨rfl, rfl, h2⟩ := close_good h
   have hb := bt_lt hl h2
   refine ⟨list_ok hlv (by simp) (.inr (.inl rfl)) (fun k hk => by cases hk), by decide, ?_⟩
   have := w8 []
   rw [wrL] at this
   simp only [List.length_nil] at this
   omega
  ·split at h
   ·cases h
   ·rename_i d1 p1 h1
    have hg := hr _ _ _ h1
    split at h
    ·cases h
    ·rename_i kids p2 h3
     obtain ⟨i0, more, e, m1, m2⟩ := it_good hr _ _ _ _ _ h3 (by simp)
     have hkids : ∀ k ∈ kids, checkE k (lv + 1) = 0 := by
      intro k hk
      rw [e] at hk
      rcases List.mem_append.1 hk with h | h
      ·rw [List.mem_singleton.1 h]; exact hg.ok
      ·exact m1 k h
     have hsum : sumW kids = (wrD d1).length + 3 + sumW more := by rw [e, sumW_app, sumW_one]
     have hne : kids ≠ [] := by rw [e]; simp
     have h5 := hg.len
     obtain ⟨rfl, rfl, h8⟩ := close_good h
     have hb2 := bt_lt hl h8
     refine ⟨list_ok hlv i0 (.inr (.inl rfl)) hkids, (show (8 : Int) ≠ 4 by decide), ?_⟩
     have hw := wrL_len [44, 32] [44, 32] (by decide) (by decide) kids hne
     have := w8 kids
     omega
theorem leaf_ok {op : Int} (ho : op = 1 \/ op = 2 \/ op = 3) {s : ByteArray} (hs : isNamed false s = true) {lv : Nat} (hlv : lv <= 64) : checkE (.mk op s [] []) lv = 0 := by
 have hf : formE op s [] [] = 0 := by
  unfold formE formB
  rcases ho with rfl | rfl | rfl <;> rw [if_neg (by decide)] <;> simp [leafOp, kidsB, hs]
 rw [checkE, if_neg (by simp; omega), hf]
 simp only [ne_eq, not_true_eq_false, if_false]
 rw [checkL]
theorem term_good (hl : Toks l) {rec : Nat -> Res Ds} {lv : Nat} (hlv : lv <= 64) (hf : Fwd l rec) (hr : ∀ p d p', rec p = .ok (d, p') -> Good l (lv + 1) d p p') {p p' : Nat} {parts parts' : List Ds} (h : termS l rec p parts = .ok (parts', p')) :
  ∃ more, parts' = parts ++ more /\ more ≠ [] /\ (∀ k ∈ more, checkE k lv = 0 /\ k.op ≠ 4) /\ sumW more + 8 * Bt l p <= 8 * Bt l p' := by
 have one : ∀ {d : Ds} {q : Nat}, p < q -> checkE d lv = 0 /\ d.op ≠ 4 /\ (wrD d).length + 8 * Bt l (p + 1) <= 8 * Bt l q -> p < l.length -> ∃ more, parts ++ [d] = parts ++ more /\ more ≠ [] /\ (∀ k ∈ more, checkE k lv = 0 /\ k.op ≠ 4) /\ sumW more + 8 * Bt l p <= 8 * Bt l q := by
  intro d q _ ⟨h1, h2, h3⟩ hp
  have hb := bt_lt hl hp
  refine ⟨[d], rfl, by simp, fun k hk => by rw [List.mem_singleton.1 hk]; exact ⟨h1, h2⟩, ?_⟩
  rw [sumW_one]
  omega
 have leaf : ∀ {op : Int}, (op = 2 \/ op = 3) -> ∀ {q : Nat}, p < l.length -> moreS parts (nameS op (takeK l (p + 1) 1)) = .ok (parts', q) -> ∃ more, parts' = parts ++ more /\ more ≠ [] /\ (∀ k ∈ more, checkE k lv = 0 /\ k.op ≠ 4) /\ sumW more + 8 * Bt l p <= 8 * Bt l q := by
  intro op ho q hp hm
  obtain ⟨d, hd, rfl⟩ := moreS_ok hm
  unfold nameS at hd
  split at hd
  ·cases hd
  ·rename_i s p1 h1
   obtain ⟨t, ht, hk, rfl, rfl⟩ := take_tok h1
   injection hd with hd; injection hd with e1 e2; subst e1; subst e2
   have hn := (hl t (List.mem_of_getElem? ht)).2.1 hk
   refine one (by omega) ⟨leaf_ok (by omega) hn hlv, ?_, ?_⟩ hp
   ·show op ≠ 4; omega
   ·have e3 := bt_next ht ((hl t (List.mem_of_getElem? ht)).1 (.inl hk))
    have h1t : 1 <= t.2.length := by
     have := (hl t (List.mem_of_getElem? ht)).1 (.inl hk)
     cases hh : t.2 with
     | nil => exact absurd hh this
     | cons _ _ => simp
    have : (wrD (.mk op (bs t.2) [] [])).length = t.2.length + 1 := by
     rw [wrD]
     rcases ho with rfl | rfl <;> simp
    omega
 unfold termS at h
 split at h
 ·cases h
 ·rename_i t ht
  have hp := (List.getElem?_eq_some_iff.1 ht).1
  split at h
  ·rename_i hk
   injection h with h; injection h with e1 e2; subst e1; subst e2
   have hn := (hl t (List.mem_of_getElem? ht)).2.1 hk
   refine ⟨[_], rfl, by simp, fun k hk' => by rw [List.mem_singleton.1 hk']; exact ⟨leaf_ok (.inl rfl) hn hlv, (show (1 : Int) ≠ 4 by decide)⟩, ?_⟩
   rw [sumW_one]
   have e3 := bt_next ht ((hl t (List.mem_of_getElem? ht)).1 (.inl hk))
   have h1t : 1 <= t.2.length := by
    have := (hl t (List.mem_of_getElem? ht)).1 (.inl hk)
    cases hh : t.2 with
    | nil => exact absurd hh this
    | cons _ _ => simp
   have : (wrD (.mk 1 (bs t.2) [] [])).length = t.2.length := by rw [wrD]; simp
   omega
  ·split at h
   ·cases h
   ·split at h
    ·exact leaf (.inl rfl) hp h
    ·split at h
     ·exact leaf (.inr rfl) hp h
     ·split at h
      ·have h2 := br_fwd hf _ _ _ _ _ h
       obtain ⟨more, e, m1, m2⟩ := br_good hl hlv hf hr _ _ _ _ _ h
       have hb := bt_lt hl hp
       refine ⟨more, e, fun e0 => ?_, m1, by omega⟩
       rw [e, e0] at h2
       simp at h2
      ·split at h
       ·obtain ⟨d, hd, rfl⟩ := moreS_ok h
        exact one (by have := lst_fwd hf hd; omega) (lst_good hl hlv hf hr hd) hp
       ·split at h
        ·obtain ⟨d, hd, rfl⟩ := moreS_ok h
         exact one (by have := dff_fwd hf hd; omega) (dff_good hl hlv hf hr hd) hp
        ·cases h
theorem and_good (hl : Toks l) {rec : Nat -> Res Ds} {lv : Nat} (hlv : lv <= 64) (hf : Fwd l rec) (hr : ∀ p d p', rec p = .ok (d, p') -> Good l (lv + 1) d p p') : ∀ (f p : Nat) (parts parts' : List Ds) (p' : Nat), andS l rec f p parts = .ok (parts', p') ->
  ∃ more, parts' = parts ++ more /\ (∀ k ∈ more, checkE k lv = 0 /\ k.op ≠ 4) /\ sumW more + 8 * Bt l p <= 8 * Bt l p'
 | 0, p, parts, parts', p', h => by cases h
 | f + 1, p, parts, parts', p', h => by
  rw [andS] at h
  split at h
  ·split at h
   ·cases h
   ·split at h
    ·cases h
    ·rename_i parts1 p1 h1
     obtain ⟨m, e, _, m1, m2⟩ := term_good hl hlv hf hr h1
     obtain ⟨more, e2, m3, m4⟩ := and_good hl hlv hf hr f _ _ _ _ h
     have hb := bt_le (l := l) (show p <= p + 1 by omega)
     refine ⟨m ++ more, by rw [e2, e, List.append_assoc], fun k hk => ?_, ?_⟩
     ·rcases List.mem_append.1 hk with h | h
      ·exact m1 k h
      ·exact m3 k h
     ·rw [sumW_app]; omega
  ·injection h with h; injection h with e1 e2; subst e1; subst e2
   exact ⟨[], by simp, fun k hk => (by cases hk), by simp [sumW]⟩
theorem des_good (hl : Toks l) : ∀ (n : Nat), n <= 64 -> ∀ p d p', desS l n p = .ok (d, p') -> Good l (65 - n) d p p'
 | 0, _, p, d, p', h => by
  rw [desS] at h
  split at h <;> cases h
 | n + 1, hn, p, d, p', h => by
  have ih : ∀ p d p', desS l n p = .ok (d, p') -> Good l ((65 - (n + 1)) + 1) d p p' := fun p d p' h => by
   rw [show (65 - (n + 1)) + 1 = 65 - n by omega]; exact des_good hl n (by omega) p d p' h
  rw [desS] at h
  split at h
  ·cases h
  ·split at h
   ·cases h
   ·rename_i parts p1 h1
    have h2 := term_fwd (des_fwd n) h1
    obtain ⟨m, e, mne, m1, m2⟩ := term_good hl (by omega) (des_fwd n) ih h1
    rw [List.nil_append] at e
    subst e
    split at h
    ·cases h
    ·rename_i parts' p2 h3
     have h4 := and_fwd (des_fwd n) _ _ _ _ _ h3 (h2.2.2.2 (by simp))
     obtain ⟨more, e2, m3, m4⟩ := and_good hl (by omega) (des_fwd n) ih _ _ _ _ _ h3
     injection h with h; injection h with e3 e4; subst e3; subst e4
     have hall : ∀ k ∈ parts', checkE k (65 - (n + 1)) = 0 /\ k.op ≠ 4 := by
      intro k hk
      rw [e2] at hk
      rcases List.mem_append.1 hk with h | h
      ·exact m1 k h
      ·exact m3 k h
     have hsum : sumW parts' + 8 * Bt l p <= 8 * Bt l p2 := by rw [e2, sumW_app]; omega
     have hne : parts' ≠ [] := by
      rw [e2]
      intro e
      exact mne (List.append_eq_nil_iff.1 e).1
     cases parts' with
     | nil => exact absurd rfl hne
     | cons a r =>
      cases r with
      | nil =>
       rw [sumW_one] at hsum
       exact ⟨(hall a (by simp)).1, hsum⟩
      | cons b r =>
       have hw := wrL_len [32, 38, 32] [32, 38, 32] (by decide) (by decide) (a :: b :: r) (by simp)
       refine ⟨?_, ?_⟩
       ·show checkE (.mk 4 ⟨#[]⟩ [] (a :: b :: r)) _ = 0
        have hf : formE 4 ⟨#[]⟩ [] (a :: b :: r) = 0 := by
         unfold formE formB
         rw [if_neg (by decide)]
         have hany : ((a :: b :: r).any fun k => decide (k.op = 4)) = false := by
          rw [List.any_eq_false]
          intro k hk hd
          exact (hall k hk).2 (of_decide_eq_true hd)
         have hkb : kidsB 4 (a :: b :: r) = true := by
          show (decide (2 <= (a :: b :: r).length) && !((a :: b :: r).any fun k => decide (k.op = 4))) = true
          rw [hany]; simp
         rw [hkb]; rfl
        have h256 := h4.2.2.2
        rw [checkE, if_neg (by simp at h256 ⊢; omega), hf]
        simp only [ne_eq, not_true_eq_false, if_false, if_true]
        exact checkL_of fun k hk => (hall k hk).1
       ·have : (wrD (oneS (a :: b :: r))).length = (wrL [32, 38, 32] [32, 38, 32] (a :: b :: r)).length := by
         show (wrD (.mk 4 ⟨#[]⟩ [] (a :: b :: r))).length = _
         rw [wrD]; simp
        omega
end
end Go.Proofs.YtjkkgbdoeaihmaaGreatDoor
