/-
 Auxiliary facts. No statement of the program stands here.
-/
import Derived.Test.YtjkkgbdoeaihmaaGreatDoorUD3Q31
import Derived.Test.YtjkkgbdoeaihmaaGreatDoorUD3Q33
namespace Go.Proofs.YtjkkgbdoeaihmaaGreatDoor
set_option linter.unusedSimpArgs false
set_option linter.unusedVariables false
open Go Go.Abs
section
variable {l : List KT}
def KOK (t : KT) : Prop := (t.1 = 1 \/ t.1 = 2 -> t.2 ≠ []) /\ (t.1 = 1 -> A0r false (bs t.2) = true) /\ (t.1 = 2 -> A0r true (bs t.2) = true)
def Toks (l : List KT) : Prop := ∀ t ∈ l, KOK t
def tkl (t : KT) : Nat := if t.2 = [] then 1 else t.2.length
def Bt (l : List KT) (p : Nat) : Nat := ((l.take p).map tkl).sum
theorem E2n {p : Nat} {t : KT} (h : l[p]? = some t) : Bt l (p + 1) = Bt l p + tkl t := by
 unfold Bt
 rw [List.take_add_one, h]
 simp
theorem C2i {p : Nat} {t : KT} (h : l[p]? = some t) (hne : t.2 ≠ []) : Bt l (p + 1) = Bt l p + t.2.length := by
 rw [E2n h]
 unfold tkl
 rw [if_neg hne]
theorem E6y {p p' : Nat} (h : p <= p') : Bt l p <= Bt l p' := by
 unfold Bt
 obtain ⟨k, rfl⟩ : ∃ k, p' = p + k := ⟨p' - p, by omega⟩
 rw [List.take_add, List.map_append, List.sum_append]
 exact Nat.le_add_right _ _
theorem B7w (_ : Toks l) {p : Nat} (h : p < l.length) : Bt l p + 1 <= Bt l (p + 1) := by
 have ht : l[p]? = some l[p] := List.getElem?_eq_getElem h
 rw [E2n ht]
 have : 1 <= tkl l[p] := by
  unfold tkl
  cases hh : (l[p]).2 with
  | nil => simp
  | cons _ _ => simp
 omega
structure Good (l : List KT) (lv : Nat) (d : Ds) (p p' : Nat) : Prop where
 ok : A1g d lv = 0
 len : (wrD d).length + 3 + 8 * Bt l p <= 8 * Bt l p'
def sumW (r : List Ds) : Nat := (r.map fun d => (wrD d).length + 3).sum
theorem B3f (a b : List Ds) : sumW (a ++ b) = sumW a + sumW b := by unfold sumW; rw [List.map_append, List.sum_append]
theorem A7r (d : Ds) : sumW [d] = (wrD d).length + 3 := by simp [sumW]
theorem B7x (sep last : List UInt8) (h1 : sep.length <= 3) (h2 : last.length <= 3) : ∀ r : List Ds, r ≠ [] -> (wrL sep last r).length + 3 <= sumW r
 | [], h => absurd rfl h
 | [d], _ => by rw [wrL, wrL, A7r]; simp [B7q]
 | d :: d2 :: r, _ => by
  have ih := B7x sep last h1 h2 (d2 :: r) (by simp)
  have e : sumW (d :: d2 :: r) = (wrD d).length + 3 + sumW (d2 :: r) := by simp [sumW]
  have e2 : (B7q sep last (d2 :: r)).length <= 3 := by cases r <;> assumption
  rw [wrL, e, List.length_append, List.length_append]
  omega
theorem C2j {p p' : Nat} {k : Int} {s : ByteArray} (h : A2u l p k = .ok (s, p')) : ∃ t, l[p]? = some t /\ t.1 = k /\ s = bs t.2 /\ p' = p + 1 := by
 unfold A2u at h
 split at h
 ·cases h
 ·rename_i t ht
  split at h
  ·rename_i hk
   injection h with h; injection h with e1 e2
   exact ⟨t, ht, hk, e1.symm, e2.symm⟩
  ·cases h
theorem B7y (s : ByteArray) : ∀ path : List ByteArray, path ≠ [] -> (A3r (path ++ [s])).length = (A3r path).length + 1 + s.size
 | [], h => absurd rfl h
 | [a], _ => by
  have e : s.data.toList.length = s.size := rfl
  show (A3r [a, s]).length = _
  simp only [A3r, List.append_nil, List.length_append, List.length_cons, e]
  omega
 | a :: b :: r, _ => by
  have ih := B7y s (b :: r) (by simp)
  show (A3r (a :: b :: (r ++ [s]))).length = (A3r (a :: b :: r)).length + 1 + s.size
  rw [A3r, A3r]
  simp only [List.length_append, List.length_cons]
  have e : b :: (r ++ [s]) = b :: r ++ [s] := rfl
  rw [e, ih]
  omega
theorem C5q (hl : Toks l) : ∀ (f p : Nat) (path path' : List ByteArray) (p' : Nat), B1g l f p path = .ok (path', p') -> path ≠ [] -> path.length <= 64 -> path.all (A0r true) = true ->
  path' ≠ [] /\ path'.length <= 64 /\ path'.all (A0r true) = true /\ (A3r path').length + Bt l p <= (A3r path).length + Bt l p'
 | 0, p, path, path', p', h, _, _, _ => by cases h
 | f + 1, p, path, path', p', h, hne, h64, hall => by
  rw [B1g] at h
  split at h
  ·rename_i hs
   split at h
   ·cases h
   ·split at h
    ·cases h
    ·rename_i s p1 h1
     obtain ⟨t, ht, hk, rfl, rfl⟩ := C2j h1
     have hn := (hl t (List.mem_of_getElem? ht)).2.2 hk
     obtain ⟨i1, i2, i3, i4⟩ := C5q hl f _ _ _ _ h (by simp) (by simp; omega) (by rw [List.all_append, hall]; simp [hn])
     refine ⟨i1, i2, i3, ?_⟩
     rw [B7y _ _ hne] at i4
     have e1 := B7w hl (A1q hs)
     have e2 := C2i ht ((hl t (List.mem_of_getElem? ht)).1 (.inr hk))
     have e3 : (bs t.2).size = t.2.length := rfl
     omega
  ·injection h with h; injection h with e1 e2; subst e1; subst e2
   exact ⟨hne, h64, hall, Nat.le_refl _⟩
theorem D7x (hl : Toks l) {rec : Nat -> Res Ds} {lv : Nat} (hlv : lv <= 64) (hr : ∀ p d p', rec p = .ok (d, p') -> Good l (lv + 1) d p p') {p p' : Nat} {d : Ds} (h : A7x l rec p = .ok (d, p')) :
  A1g d lv = 0 /\ d.op ≠ 4 /\ (wrD d).length + 8 * Bt l p <= 8 * Bt l p' := by
 unfold A7x at h
 split at h
 ·cases h
 ·rename_i s p1 h1
  obtain ⟨t, ht, hk, rfl, rfl⟩ := C2j h1
  have hn := (hl t (List.mem_of_getElem? ht)).2.2 hk
  split at h
  ·cases h
  ·rename_i path p2 h3
   obtain ⟨i1, i2, i3, i4⟩ := C5q hl _ _ _ _ _ h3 (by simp) (by simp) (by simp [hn])
   split at h
   ·cases h
   ·rename_i d' p3 h5
    have hg := hr _ _ _ h5
    injection h with h; injection h with e1 e2; subst e1; subst e2
    have hpos : 0 < path.length := by cases path with
     | nil => exact absurd rfl i1
     | cons _ _ => simp
    refine ⟨?_, (show (5 : Int) ≠ 4 by decide), ?_⟩
    ·rw [A1g, if_neg (by simp; omega)]
     have hf : A9a 5 ⟨#[]⟩ path [d'] = 0 := by
      unfold A9a B8p
      rw [if_neg (by decide), i3]
      simp [A8m, B0b, hpos]
      rfl
     rw [hf]
     simp only [ne_eq, not_true_eq_false, if_false]
     rw [if_neg (by decide), A5j, if_neg (by rw [hg.ok]; simp), A5j]
    ·rw [wrD]
     simp only [if_neg (show ¬ (5 : Int) = 1 by decide), if_neg (show ¬ (5 : Int) = 2 by decide), if_neg (show ¬ (5 : Int) = 3 by decide), if_neg (show ¬ (5 : Int) = 4 by decide), if_true]
     rw [wrL, wrL]
     simp only [B7q, List.append_nil, List.nil_append, List.length_cons, List.length_append, List.length_nil]
     have e1 := C2i ht ((hl t (List.mem_of_getElem? ht)).1 (.inr hk))
     have e2 : (A3r [bs t.2]).length = t.2.length := by simp [A3r]
     have := hg.len
     rw [e2] at i4
     have h1t : 1 <= t.2.length := by
      have := (hl t (List.mem_of_getElem? ht)).1 (.inr hk)
      cases hh : t.2 with
      | nil => exact absurd hh this
      | cons _ _ => simp
     omega
theorem D7y (hl : Toks l) {rec : Nat -> Res Ds} {lv : Nat} (hlv : lv <= 64) (hf : Fwd l rec) (hr : ∀ p d p', rec p = .ok (d, p') -> Good l (lv + 1) d p p') : ∀ (f p : Nat) (parts parts' : List Ds) (p' : Nat), brS l rec f p parts = .ok (parts', p') ->
  ∃ more, parts' = parts ++ more /\ (∀ k ∈ more, A1g k lv = 0 /\ k.op ≠ 4) /\ sumW more + 8 * Bt l p <= 8 * Bt l p'
 | 0, p, parts, parts', p', h => by cases h
 | f + 1, p, parts, parts', p', h => by
  rw [brS] at h
  split at h
  ·cases h
  ·rename_i d p1 h1
   obtain ⟨g1, g2, g3⟩ := D7x hl hlv hr h1
   split at h
   ·rename_i hs
    have hb := B7w hl (A1q hs)
    split at h
    ·cases h
    ·obtain ⟨more, e, m1, m2⟩ := D7y hl hlv hf hr f _ _ _ _ h
     refine ⟨d :: more, by rw [e]; simp, fun k hk => ?_, ?_⟩
     ·rcases List.mem_cons.1 hk with e | e
      ·rw [e]; exact ⟨g1, g2⟩
      ·exact m1 k e
     ·have : sumW (d :: more) = (wrD d).length + 3 + sumW more := by simp [sumW]
      omega
   ·split at h
    ·cases h
    ·rename_i p2 h3
     obtain ⟨e1, h4⟩ := C1q h3
     have hb := B7w hl h4
     injection h with h; injection h with e2 e3; subst e2; subst e3; subst e1
     refine ⟨[d], rfl, fun k hk => by rw [List.mem_singleton.1 hk]; exact ⟨g1, g2⟩, ?_⟩
     rw [A7r]
     omega
theorem C8d {rec : Nat -> Res Ds} {lv : Nat} (hr : ∀ p d p', rec p = .ok (d, p') -> Good l (lv + 1) d p p') : ∀ (f p : Nat) (kids kids' : List Ds) (p' : Nat), itS l rec f p kids = .ok (kids', p') -> kids.length <= 256 ->
  kids'.length <= 256 /\ ∃ more, kids' = kids ++ more /\ (∀ k ∈ more, A1g k (lv + 1) = 0) /\ sumW more + 8 * Bt l p <= 8 * Bt l p'
 | 0, p, kids, kids', p', h, _ => by cases h
 | f + 1, p, kids, kids', p', h, h256 => by
  rw [itS] at h
  split at h
  ·split at h
   ·cases h
   ·split at h
    ·cases h
    ·rename_i d p1 h1
     have hg := hr _ _ _ h1
     obtain ⟨i0, more, e, m1, m2⟩ := C8d hr f _ _ _ _ h (by simp; omega)
     refine ⟨i0, d :: more, by rw [e]; simp, fun k hk => ?_, ?_⟩
     ·rcases List.mem_cons.1 hk with e | e
      ·rw [e]; exact hg.ok
      ·exact m1 k e
     ·have : sumW (d :: more) = (wrD d).length + 3 + sumW more := by simp [sumW]
      have h2 := hg.len
      have h3 := E6y (l := l) (show p <= p + 1 by omega)
      omega
  ·injection h with h; injection h with e1 e2; subst e1; subst e2
   exact ⟨h256, [], by simp, fun k hk => (by cases hk), by simp [sumW]⟩
theorem A8n {s : List UInt8} {op : Int} {kids : List Ds} {p p' : Nat} {d : Ds} (h : A2x l s op kids p = .ok (d, p')) : d = .mk op ⟨#[]⟩ [] kids /\ p' = p + 1 /\ p < l.length := by
 have h0 := A8k h
 unfold A2x at h
 split at h
 ·cases h
 ·injection h with h; injection h with e _
  exact ⟨e.symm, h0⟩
theorem B7z {op : Int} {kids : List Ds} {lv : Nat} (hlv : lv <= 64) (h256 : kids.length <= 256) (ho : op = 6 \/ op = 8 \/ (op = 7 /\ 2 <= kids.length)) (hk : ∀ k ∈ kids, A1g k (lv + 1) = 0) : A1g (.mk op ⟨#[]⟩ [] kids) lv = 0 := by
 have hf : A9a op ⟨#[]⟩ [] kids = 0 := by
  unfold A9a B8p
  rcases ho with rfl | rfl | ⟨rfl, h2⟩
  ·rw [if_neg (by decide)]; rfl
  ·rw [if_neg (by decide)]; rfl
  ·rw [if_neg (by decide)]
   simp [A8m, B0b, h2]
   rfl
 rw [A1g, if_neg (by simp; omega), hf]
 simp only [ne_eq, not_true_eq_false, if_false]
 rw [if_neg (by omega)]
 exact B7r hk
theorem E1i (hl : Toks l) {rec : Nat -> Res Ds} {lv : Nat} (hlv : lv <= 64) (hf : Fwd l rec) (hr : ∀ p d p', rec p = .ok (d, p') -> Good l (lv + 1) d p p') {p p' : Nat} {d : Ds} (h : lstS l rec p = .ok (d, p')) :
  A1g d lv = 0 /\ d.op ≠ 4 /\ (wrD d).length + 8 * Bt l p <= 8 * Bt l p' := by
 unfold lstS at h
 split at h
 ·cases h
 ·split at h
  ·obtain ⟨rfl, rfl, h2⟩ := A8n h
   have hb := B7w hl h2
   refine ⟨B7z hlv (by simp) (.inl rfl) (fun k hk => by cases hk), by decide, ?_⟩
   have : (wrD (.mk 6 ⟨#[]⟩ [] [])).length = 2 := by rw [wrD, wrL]; rfl
   omega
  ·split at h
   ·cases h
   ·rename_i d1 p1 h1
    have hg := hr _ _ _ h1
    split at h
    ·cases h
    ·rename_i kids p2 h3
     obtain ⟨i0, more, e, m1, m2⟩ := C8d hr _ _ _ _ _ h3 (by simp)
     have hkids : ∀ k ∈ kids, A1g k (lv + 1) = 0 := by
      intro k hk
      rw [e] at hk
      rcases List.mem_append.1 hk with h | h
      ·rw [List.mem_singleton.1 h]; exact hg.ok
      ·exact m1 k h
     have hsum : sumW kids = (wrD d1).length + 3 + sumW more := by rw [e, B3f, A7r]
     have hne : kids ≠ [] := by rw [e]; simp
     have h5 := hg.len
     split at h
     ·rename_i hb
      have hb1 := B7w hl (A1q hb)
      split at h
      ·cases h
      ·split at h
       ·cases h
       ·rename_i d3 p3 h6
        have hg3 := hr _ _ _ h6
        have h7 := hg3.len
        obtain ⟨rfl, rfl, h8⟩ := A8n h
        have hb2 := B7w hl h8
        refine ⟨B7z hlv (by simp; omega) (.inr (.inr ⟨rfl, ?_⟩)) (fun k hk => ?_), (show (7 : Int) ≠ 4 by decide), ?_⟩
        ·rw [List.length_append, e]; simp
        ·rcases List.mem_append.1 hk with h | h
         ·exact hkids k h
         ·rw [List.mem_singleton.1 h]; exact hg3.ok
        ·have hw := B7x [44, 32] [32, 124, 32] (by decide) (by decide) (kids ++ [d3]) (by simp)
         rw [B3f, A7r] at hw
         have : (wrD (.mk 7 ⟨#[]⟩ [] (kids ++ [d3]))).length = (wrL [44, 32] [32, 124, 32] (kids ++ [d3])).length + 2 := by
          rw [wrD]
          simp only [if_neg (show ¬ (7 : Int) = 1 by decide), if_neg (show ¬ (7 : Int) = 2 by decide), if_neg (show ¬ (7 : Int) = 3 by decide), if_neg (show ¬ (7 : Int) = 4 by decide), if_neg (show ¬ (7 : Int) = 5 by decide), if_neg (show ¬ (7 : Int) = 6 by decide), if_true]
          simp
         omega
     ·obtain ⟨rfl, rfl, h8⟩ := A8n h
      have hb2 := B7w hl h8
      refine ⟨B7z hlv i0 (.inl rfl) hkids, (show (6 : Int) ≠ 4 by decide), ?_⟩
      have hw := B7x [44, 32] [44, 32] (by decide) (by decide) kids hne
      have : (wrD (.mk 6 ⟨#[]⟩ [] kids)).length = (wrL [44, 32] [44, 32] kids).length + 2 := by
       rw [wrD]
       simp only [if_neg (show ¬ (6 : Int) = 1 by decide), if_neg (show ¬ (6 : Int) = 2 by decide), if_neg (show ¬ (6 : Int) = 3 by decide), if_neg (show ¬ (6 : Int) = 4 by decide), if_neg (show ¬ (6 : Int) = 5 by decide), if_true]
       simp
      omega
theorem E1j (hl : Toks l) {rec : Nat -> Res Ds} {lv : Nat} (hlv : lv <= 64) (hf : Fwd l rec) (hr : ∀ p d p', rec p = .ok (d, p') -> Good l (lv + 1) d p p') {p p' : Nat} {d : Ds} (h : dffS l rec p = .ok (d, p')) :
  A1g d lv = 0 /\ d.op ≠ 4 /\ (wrD d).length + 8 * Bt l p <= 8 * Bt l p' := by
 have w8 : ∀ kids : List Ds, (wrD (.mk 8 ⟨#[]⟩ [] kids)).length <= (wrL [44, 32] [44, 32] kids).length + 6 := by
  intro kids
  rw [wrD]
  simp only [if_neg (show ¬ (8 : Int) = 1 by decide), if_neg (show ¬ (8 : Int) = 2 by decide), if_neg (show ¬ (8 : Int) = 3 by decide), if_neg (show ¬ (8 : Int) = 4 by decide), if_neg (show ¬ (8 : Int) = 5 by decide), if_neg (show ¬ (8 : Int) = 6 by decide), if_neg (show ¬ (8 : Int) = 7 by decide)]
  split
  ·simp
  ·simp
 unfold dffS at h
 split at h
 ·cases h
 ·split at h
  ·obtain ⟨rfl, rfl, h2⟩ := A8n h
   have hb := B7w hl h2
   refine ⟨B7z hlv (by simp) (.inr (.inl rfl)) (fun k hk => by cases hk), by decide, ?_⟩
   have := w8 []
   rw [wrL] at this
   simp only [List.length_nil] at this
   omega
  ·split at h
   ·cases h
   ·rename_i d1 p1 h1
    have hg := hr _ _ _ h1
    split at h
    ·cases h
    ·rename_i kids p2 h3
     obtain ⟨i0, more, e, m1, m2⟩ := C8d hr _ _ _ _ _ h3 (by simp)
     have hkids : ∀ k ∈ kids, A1g k (lv + 1) = 0 := by
      intro k hk
      rw [e] at hk
      rcases List.mem_append.1 hk with h | h
      ·rw [List.mem_singleton.1 h]; exact hg.ok
      ·exact m1 k h
     have hsum : sumW kids = (wrD d1).length + 3 + sumW more := by rw [e, B3f, A7r]
     have hne : kids ≠ [] := by rw [e]; simp
     have h5 := hg.len
     obtain ⟨rfl, rfl, h8⟩ := A8n h
     have hb2 := B7w hl h8
     refine ⟨B7z hlv i0 (.inr (.inl rfl)) hkids, (show (8 : Int) ≠ 4 by decide), ?_⟩
     have hw := B7x [44, 32] [44, 32] (by decide) (by decide) kids hne
     have := w8 kids
     omega
theorem D7z {op : Int} (ho : op = 1 \/ op = 2 \/ op = 3) {s : ByteArray} (hs : A0r false s = true) {lv : Nat} (hlv : lv <= 64) : A1g (.mk op s [] []) lv = 0 := by
 have hf : A9a op s [] [] = 0 := by
  unfold A9a B8p
  rcases ho with rfl | rfl | rfl <;> rw [if_neg (by decide)] <;> simp [A8m, B0b, hs]
 rw [A1g, if_neg (by simp; omega), hf]
 simp only [ne_eq, not_true_eq_false, if_false]
 rw [A5j]
theorem C5r (hl : Toks l) {rec : Nat -> Res Ds} {lv : Nat} (hlv : lv <= 64) (hf : Fwd l rec) (hr : ∀ p d p', rec p = .ok (d, p') -> Good l (lv + 1) d p p') {p p' : Nat} {parts parts' : List Ds} (h : A6d l rec p parts = .ok (parts', p')) :
  ∃ more, parts' = parts ++ more /\ more ≠ [] /\ (∀ k ∈ more, A1g k lv = 0 /\ k.op ≠ 4) /\ sumW more + 8 * Bt l p <= 8 * Bt l p' := by
 have one : ∀ {d : Ds} {q : Nat}, p < q -> A1g d lv = 0 /\ d.op ≠ 4 /\ (wrD d).length + 8 * Bt l (p + 1) <= 8 * Bt l q -> p < l.length -> ∃ more, parts ++ [d] = parts ++ more /\ more ≠ [] /\ (∀ k ∈ more, A1g k lv = 0 /\ k.op ≠ 4) /\ sumW more + 8 * Bt l p <= 8 * Bt l q := by
  intro d q _ ⟨h1, h2, h3⟩ hp
  have hb := B7w hl hp
  refine ⟨[d], rfl, by simp, fun k hk => by rw [List.mem_singleton.1 hk]; exact ⟨h1, h2⟩, ?_⟩
  rw [A7r]
  omega
 have leaf : ∀ {op : Int}, (op = 2 \/ op = 3) -> ∀ {q : Nat}, p < l.length -> A7y parts (B2u op (A2u l (p + 1) 1)) = .ok (parts', q) -> ∃ more, parts' = parts ++ more /\ more ≠ [] /\ (∀ k ∈ more, A1g k lv = 0 /\ k.op ≠ 4) /\ sumW more + 8 * Bt l p <= 8 * Bt l q := by
  intro op ho q hp hm
  obtain ⟨d, hd, rfl⟩ := C2h hm
  unfold B2u at hd
  split at hd
  ·cases hd
  ·rename_i s p1 h1
   obtain ⟨t, ht, hk, rfl, rfl⟩ := C2j h1
   injection hd with hd; injection hd with e1 e2; subst e1; subst e2
   have hn := (hl t (List.mem_of_getElem? ht)).2.1 hk
   refine one (by omega) ⟨D7z (by omega) hn hlv, ?_, ?_⟩ hp
   ·show op ≠ 4; omega
   ·have e3 := C2i ht ((hl t (List.mem_of_getElem? ht)).1 (.inl hk))
    have h1t : 1 <= t.2.length := by
     have := (hl t (List.mem_of_getElem? ht)).1 (.inl hk)
     cases hh : t.2 with
     | nil => exact absurd hh this
     | cons _ _ => simp
    have : (wrD (.mk op (bs t.2) [] [])).length = t.2.length + 1 := by
     rw [wrD]
     rcases ho with rfl | rfl <;> simp
    omega
 unfold A6d at h
 split at h
 ·cases h
 ·rename_i t ht
  have hp := (List.getElem?_eq_some_iff.1 ht).1
  split at h
  ·rename_i hk
   injection h with h; injection h with e1 e2; subst e1; subst e2
   have hn := (hl t (List.mem_of_getElem? ht)).2.1 hk
   refine ⟨[_], rfl, by simp, fun k hk' => by rw [List.mem_singleton.1 hk']; exact ⟨D7z (.inl rfl) hn hlv, (show (1 : Int) ≠ 4 by decide)⟩, ?_⟩
   rw [A7r]
   have e3 := C2i ht ((hl t (List.mem_of_getElem? ht)).1 (.inl hk))
   have h1t : 1 <= t.2.length := by
    have := (hl t (List.mem_of_getElem? ht)).1 (.inl hk)
    cases hh : t.2 with
    | nil => exact absurd hh this
    | cons _ _ => simp
   have : (wrD (.mk 1 (bs t.2) [] [])).length = t.2.length := by rw [wrD]; simp
   omega
  ·split at h
   ·cases h
   ·split at h
    ·exact leaf (.inl rfl) hp h
    ·split at h
     ·exact leaf (.inr rfl) hp h
     ·split at h
      ·have h2 := C4s hf _ _ _ _ _ h
       obtain ⟨more, e, m1, m2⟩ := D7y hl hlv hf hr _ _ _ _ _ h
       have hb := B7w hl hp
       refine ⟨more, e, fun e0 => ?_, m1, by omega⟩
       rw [e, e0] at h2
       simp at h2
      ·split at h
       ·obtain ⟨d, hd, rfl⟩ := C2h h
        exact one (by have := D5r hf hd; omega) (E1i hl hlv hf hr hd) hp
       ·split at h
        ·obtain ⟨d, hd, rfl⟩ := C2h h
         exact one (by have := D5s hf hd; omega) (E1j hl hlv hf hr hd) hp
        ·cases h
theorem D0g (hl : Toks l) {rec : Nat -> Res Ds} {lv : Nat} (hlv : lv <= 64) (hf : Fwd l rec) (hr : ∀ p d p', rec p = .ok (d, p') -> Good l (lv + 1) d p p') : ∀ (f p : Nat) (parts parts' : List Ds) (p' : Nat), andS l rec f p parts = .ok (parts', p') ->
  ∃ more, parts' = parts ++ more /\ (∀ k ∈ more, A1g k lv = 0 /\ k.op ≠ 4) /\ sumW more + 8 * Bt l p <= 8 * Bt l p'
 | 0, p, parts, parts', p', h => by cases h
 | f + 1, p, parts, parts', p', h => by
  rw [andS] at h
  split at h
  ·split at h
   ·cases h
   ·split at h
    ·cases h
    ·rename_i parts1 p1 h1
     obtain ⟨m, e, _, m1, m2⟩ := C5r hl hlv hf hr h1
     obtain ⟨more, e2, m3, m4⟩ := D0g hl hlv hf hr f _ _ _ _ h
     have hb := E6y (l := l) (show p <= p + 1 by omega)
     refine ⟨m ++ more, by rw [e2, e, List.append_assoc], fun k hk => ?_, ?_⟩
     ·rcases List.mem_append.1 hk with h | h
      ·exact m1 k h
      ·exact m3 k h
     ·rw [B3f]; omega
  ·injection h with h; injection h with e1 e2; subst e1; subst e2
   exact ⟨[], by simp, fun k hk => (by cases hk), by simp [sumW]⟩
theorem D0h (hl : Toks l) : ∀ (n : Nat), n <= 64 -> ∀ p d p', desS l n p = .ok (d, p') -> Good l (65 - n) d p p'
 | 0, _, p, d, p', h => by
  rw [desS] at h
  split at h <;> cases h
 | n + 1, hn, p, d, p', h => by
  have ih : ∀ p d p', desS l n p = .ok (d, p') -> Good l ((65 - (n + 1)) + 1) d p p' := fun p d p' h => by
   rw [show (65 - (n + 1)) + 1 = 65 - n by omega]; exact D0h hl n (by omega) p d p' h
  rw [desS] at h
  split at h
  ·cases h
  ·split at h
   ·cases h
   ·rename_i parts p1 h1
    have h2 := A6m (A5g n) h1
    obtain ⟨m, e, mne, m1, m2⟩ := C5r hl (by omega) (A5g n) ih h1
    rw [List.nil_append] at e
    subst e
    split at h
    ·cases h
    ·rename_i parts' p2 h3
     have h4 := C7d (A5g n) _ _ _ _ _ h3 (h2.2.2.2 (by simp))
     obtain ⟨more, e2, m3, m4⟩ := D0g hl (by omega) (A5g n) ih _ _ _ _ _ h3
     injection h with h; injection h with e3 e4; subst e3; subst e4
     have hall : ∀ k ∈ parts', A1g k (65 - (n + 1)) = 0 /\ k.op ≠ 4 := by
      intro k hk
      rw [e2] at hk
      rcases List.mem_append.1 hk with h | h
      ·exact m1 k h
      ·exact m3 k h
     have hsum : sumW parts' + 8 * Bt l p <= 8 * Bt l p2 := by rw [e2, B3f]; omega
     have hne : parts' ≠ [] := by
      rw [e2]
      intro e
      exact mne (List.append_eq_nil_iff.1 e).1
     cases parts' with
     | nil => exact absurd rfl hne
     | cons a r =>
      cases r with
      | nil =>
       rw [A7r] at hsum
       exact ⟨(hall a (by simp)).1, hsum⟩
      | cons b r =>
       have hw := B7x [32, 38, 32] [32, 38, 32] (by decide) (by decide) (a :: b :: r) (by simp)
       refine ⟨?_, ?_⟩
       ·show A1g (.mk 4 ⟨#[]⟩ [] (a :: b :: r)) _ = 0
        have hf : A9a 4 ⟨#[]⟩ [] (a :: b :: r) = 0 := by
         unfold A9a B8p
         rw [if_neg (by decide)]
         have hany : ((a :: b :: r).any fun k => decide (k.op = 4)) = false := by
          rw [List.any_eq_false]
          intro k hk hd
          exact (hall k hk).2 (of_decide_eq_true hd)
         have hkb : B0b 4 (a :: b :: r) = true := by
          show (decide (2 <= (a :: b :: r).length) && !((a :: b :: r).any fun k => decide (k.op = 4))) = true
          rw [hany]; simp
         rw [hkb]; rfl
        have h256 := h4.2.2.2
        rw [A1g, if_neg (by simp at h256 ⊢; omega), hf]
        simp only [ne_eq, not_true_eq_false, if_false, if_true]
        exact B7r fun k hk => (hall k hk).1
       ·have : (wrD (oneS (a :: b :: r))).length = (wrL [32, 38, 32] [32, 38, 32] (a :: b :: r)).length := by
         show (wrD (.mk 4 ⟨#[]⟩ [] (a :: b :: r))).length = _
         rw [wrD]; simp
        omega
end
end Go.Proofs.YtjkkgbdoeaihmaaGreatDoor
