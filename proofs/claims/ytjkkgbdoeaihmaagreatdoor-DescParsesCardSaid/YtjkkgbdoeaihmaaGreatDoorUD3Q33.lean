/-
 Auxiliary facts. No statement of the program stands here.
-/
import Derived.Test.YtjkkgbdoeaihmaaGreatDoorUD3Q32
import Derived.Sort.Walk0
import Derived.Test.YtjkkgbdoeaihmaaGreatDoorUD3Q24
namespace Go.Proofs.YtjkkgbdoeaihmaaGreatDoor
set_option linter.unusedSimpArgs false
set_option linter.unusedVariables false
open Go Go.Abs
mutual
def colD (o : Int) : Ds -> List ByteArray
 | .mk op name _ kids => (if op = o then [name] else []) ++ colL o kids
def colL (o : Int) : List Ds -> List ByteArray
 | [] => []
 | d :: r => colD o d ++ colL o r
end
mutual
theorem B3e (o : Int) : ∀ d : Ds, (colD o d).length <= A6h d
 | .mk op name _ kids => by
  have i := D0e o kids
  rw [colD, A6h, List.length_append]
  split <;> simp <;> omega
theorem D0e (o : Int) : ∀ l : List Ds, (colL o l).length <= A6i l
 | [] => by simp [colL, A6i]
 | d :: r => by
  have i1 := B3e o d
  have i2 := D0e o r
  rw [colL, A6i, List.length_append]; omega
end
def Asc (l : List ByteArray) : Prop := l.Pairwise fun a b => lb a < lb b
theorem E2h {a b : ByteArray} (h : lb a = lb b) : a = b := by
 cases a; cases b
 congr 1
 exact Array.ext' h
theorem B5w : ∀ {l m : List ByteArray}, Asc l -> Asc m -> (∀ x, x ∈ l ↔ x ∈ m) -> l = m
 | [], [], _, _, _ => rfl
 | [], b :: m, _, _, h => absurd ((h b).2 (by simp)) (by simp)
 | a :: l, [], _, _, h => absurd ((h a).1 (by simp)) (by simp)
 | a :: l, b :: m, hl, hm, h => by
  obtain ⟨h1, h2⟩ := List.pairwise_cons.1 hl
  obtain ⟨h3, h4⟩ := List.pairwise_cons.1 hm
  have e : a = b := by
   rcases List.mem_cons.1 ((h a).1 (by simp)) with e | e
   ·exact e
   ·rcases List.mem_cons.1 ((h b).2 (by simp)) with e2 | e2
    ·exact e2.symm
    ·exact absurd (List.lt_trans (h1 b e2) (h3 a e)) (List.lt_irrefl _)
  subst e
  rw [B5w h2 h4 fun x => ?_]
  constructor
  ·intro hx
   rcases List.mem_cons.1 ((h x).1 (by simp [hx])) with e | e
   ·subst e; exact absurd (h1 _ hx) (List.lt_irrefl _)
   ·exact e
  ·intro hx
   rcases List.mem_cons.1 ((h x).2 (by simp [hx])) with e | e
   ·subst e; exact absurd (h3 _ hx) (List.lt_irrefl _)
   ·exact e
theorem E2i (s x : ByteArray) : geB s x = !decide (lb s < lb x) := by
 unfold geB
 rw [bytesLess_eq, A4o, A4o]
theorem D7o (s x : ByteArray) : neB s x = !decide (s = x) := by
 unfold neB
 rw [A4o, A4o]
 by_cases h : s = x
 ·subst h; simp
 ·have hb : (s.data.toList == x.data.toList) = false := beq_eq_false_iff_ne.2 fun e => h (E2h e)
  rw [hb, decide_eq_false h]
theorem C2e (x : ByteArray) : ∀ l : List ByteArray, wiS x true l = l.filter fun s => !decide (s = x)
 | [] => rfl
 | s :: r => by
  rw [wiS, Bool.true_or, C2e x r, D7o, List.filter_cons]
  by_cases h : s = x <;> simp [h]
theorem C7y (x y : ByteArray) : ∀ l : List ByteArray, y ∈ wiS x false l ↔ y = x \/ y ∈ l
 | [] => by simp [wiS]
 | s :: r => by
  have i := C7y x y r
  rw [wiS, Bool.false_or, E2i, D7o]
  by_cases h : lb s < lb x
  ·have hne : ¬ s = x := fun e => by subst e; exact List.lt_irrefl _ h
   simp only [h, hne, decide_true, decide_false, Bool.not_true, Bool.not_false, Bool.and_false, Bool.false_eq_true, if_false, if_true, List.nil_append, List.mem_append, i, List.mem_cons, List.not_mem_nil, or_false]
   constructor
   ·rintro (h | h | h)
    ·exact .inr (.inl h)
    ·exact .inl h
    ·exact .inr (.inr h)
   ·rintro (h | h | h)
    ·exact .inr (.inl h)
    ·exact .inl h
    ·exact .inr (.inr h)
  ·simp only [h, decide_false, Bool.not_false, Bool.and_true, if_true, C2e, List.mem_append, List.mem_singleton, List.mem_filter, List.mem_cons]
   by_cases hy : y = x
   ·simp [hy]
   ·by_cases hs : s = x
    ·simp [hs, hy]
    ·simp [hs, hy]
theorem D7p (x : ByteArray) : ∀ {l : List ByteArray}, Asc l -> Asc (wiS x false l)
 | [], _ => by simp [wiS, Asc]
 | s :: r, h => by
  obtain ⟨h1, h2⟩ := List.pairwise_cons.1 h
  rw [wiS, Bool.false_or, E2i, D7o]
  by_cases hl : lb s < lb x
  ·have hne : ¬ s = x := fun e => by subst e; exact List.lt_irrefl _ hl
   simp only [hl, hne, decide_true, decide_false, Bool.not_true, Bool.not_false, Bool.and_false, Bool.false_eq_true, if_false, if_true, List.nil_append]
   refine List.pairwise_cons.2 ⟨fun y hy => ?_, D7p x h2⟩
   rcases (C7y x y r).1 hy with rfl | hy
   ·exact hl
   ·exact h1 y hy
  ·have e : (if (!false && !decide (lb s < lb x)) = true then [x] else []) ++ ((if (!decide (s = x)) = true then [s] else []) ++ wiS x (!decide (lb s < lb x)) r) = x :: (s :: r).filter (fun s => !decide (s = x)) := by
    simp only [hl, decide_false, Bool.not_false, Bool.and_true, if_true, C2e, List.filter_cons]
    by_cases hs : s = x <;> simp [hs]
   rw [e]
   refine List.pairwise_cons.2 ⟨fun y hy => ?_, List.Pairwise.filter _ h⟩
   obtain ⟨hy, hne⟩ := List.mem_filter.1 hy
   have hne : y ≠ x := by simpa using hne
   have hxs : lb x <= lb s := List.not_lt.1 hl
   have hsy : lb s <= lb y := by
    rcases List.mem_cons.1 hy with rfl | hy
    ·exact List.le_refl _
    ·exact List.le_of_lt (h1 y hy)
   have hxy : lb x <= lb y := List.le_trans hxs hsy
   rcases Decidable.em (lb x < lb y) with h3 | h3
   ·exact h3
   ·exact absurd (E2h (List.le_antisymm (List.not_lt.1 h3) hxy)) hne
mutual
theorem C2f (o : Int) : ∀ (d : Ds) {acc : List ByteArray}, Asc acc -> Asc (nmD o d acc) /\ ∀ y, y ∈ nmD o d acc ↔ y ∈ acc \/ y ∈ colD o d
 | .mk op name _ kids, acc, h => by
  rw [nmD, colD]
  have h0 : Asc (if op = o then wiS name false acc else acc) := by
   split
   ·exact D7p name h
   ·exact h
  obtain ⟨i1, i2⟩ := D7q o kids h0
  refine ⟨i1, fun y => ?_⟩
  rw [i2]
  by_cases ho : op = o
  ·simp only [if_pos ho, C7y, List.mem_append, List.mem_singleton]
   constructor
   ·rintro ((h | h) | h)
    ·exact .inr (.inl h)
    ·exact .inl h
    ·exact .inr (.inr h)
   ·rintro (h | h | h)
    ·exact .inl (.inr h)
    ·exact .inl (.inl h)
    ·exact .inr h
  ·simp [if_neg ho]
theorem D7q (o : Int) : ∀ (l : List Ds) {acc : List ByteArray}, Asc acc -> Asc (nmL o l acc) /\ ∀ y, y ∈ nmL o l acc ↔ y ∈ acc \/ y ∈ colL o l
 | [], acc, h => by rw [nmL, colL]; exact ⟨h, by simp⟩
 | d :: r, acc, h => by
  rw [nmL, colL]
  obtain ⟨i1, i2⟩ := C2f o d h
  obtain ⟨j1, j2⟩ := D7q o r i1
  refine ⟨j1, fun y => ?_⟩
  rw [j2, i2, List.mem_append, or_assoc]
end
theorem C7z (d : Array (List UInt8)) (y : List UInt8) : ∀ m, y ∈ Lib.compactUpTo d m ↔ ∃ j, j < m /\ d[j]! = y
 | 0 => by simp [Lib.compactUpTo]
 | m + 1 => by
  rw [Lib.compactUpTo_succ, List.mem_append, C7z d y m]
  constructor
  ·rintro (⟨j, h1, h2⟩ | h)
   ·exact ⟨j, by omega, h2⟩
   ·split at h
    ·exact ⟨m, by omega, (List.mem_singleton.1 h).symm⟩
    ·cases h
  ·rintro ⟨j, h1, h2⟩
   by_cases hj : j < m
   ·exact .inl ⟨j, hj, h2⟩
   ·have : j = m := by omega
    subst this
    cases hk : Lib.keeps d j with
    | true => exact .inr (by simp [h2])
    | false =>
     have hk' : ¬ (j = 0 \/ d[j]! ≠ d[j - 1]!) := by simpa [Lib.keeps] using hk
     refine .inl ⟨j - 1, by omega, ?_⟩
     rw [<- h2]
     exact (Decidable.not_not.1 fun h => hk' (.inr h)).symm
theorem D7r (d : Array (List UInt8)) (hd : ∀ i j, i <= j -> j < d.size -> d[i]! <= d[j]!) : ∀ m, m <= d.size -> (Lib.compactUpTo d m).Pairwise (· < ·)
 | 0, _ => by simp [Lib.compactUpTo]
 | m + 1, hm => by
  rw [Lib.compactUpTo_succ, List.pairwise_append]
  refine ⟨D7r d hd m (by omega), by split <;> simp, fun x hx y hy => ?_⟩
  split at hy
  ·rename_i hk
   rw [List.mem_singleton.1 hy]
   obtain ⟨j, hj, rfl⟩ := (C7z d x m).1 hx
   have hk' : m = 0 \/ d[m]! ≠ d[m - 1]! := by simpa [Lib.keeps] using hk
   have hne := hk'.resolve_left (by omega)
   have h1 := hd j (m - 1) (by omega) (by omega)
   have h2 := hd (m - 1) m (by omega) (by omega)
   refine List.lt_of_le_of_lt h1 ?_
   rcases Decidable.em (d[m - 1]! < d[m]!) with h3 | h3
   ·exact h3
   ·exact absurd (List.le_antisymm (List.not_lt.1 h3) h2) hne
  ·cases hy
theorem E2j (l : List ByteArray) : Asc (cmpS (srtS l)) /\ ∀ y, y ∈ cmpS (srtS l) ↔ y ∈ l := by
 have em : (srtS l).map lb = (l.map lb).mergeSort fun x y => decide (x <= y) := by
  unfold srtS
  rw [List.map_map, show lb ∘ bs = id from rfl, List.map_id]
 obtain ⟨zs, hzs⟩ : ∃ zs, zs = (l.map lb).mergeSort fun x y => decide (x <= y) := ⟨_, rfl⟩
 have hp : zs.Pairwise fun a b => a <= b := by
  rw [hzs]
  refine List.Pairwise.imp (fun h => of_decide_eq_true h) (List.pairwise_mergeSort (le := fun x y : List UInt8 => decide (x <= y)) ?_ ?_ (l.map lb))
  ·intro a b c h1 h2
   exact decide_eq_true (List.le_trans (of_decide_eq_true h1) (of_decide_eq_true h2))
  ·intro a b
   rcases List.le_total a b with h | h <;> simp [h]
 unfold cmpS
 rw [em, <- hzs]
 have hmem : ∀ y, y ∈ Lib.compact zs ↔ y ∈ zs := fun y => by
  unfold Lib.compact
  rw [C7z]
  constructor
  ·rintro ⟨j, h1, rfl⟩
   have : zs.toArray[j]! = zs[j] := by simp [h1]
   rw [this]
   exact List.getElem_mem _
  ·intro h
   obtain ⟨j, h1, rfl⟩ := List.getElem_of_mem h
   exact ⟨j, h1, by simp [h1]⟩
 have hasc : (Lib.compact zs).Pairwise (· < ·) := by
  refine D7r _ (fun i j hij hj => ?_) _ (by simp)
  have hj' : j < zs.length := by simpa using hj
  have hi' : i < zs.length := by omega
  rw [show zs.toArray[i]! = zs[i] by simp [hi'], show zs.toArray[j]! = zs[j] by simp [hj']]
  by_cases e : i = j
  ·subst e; exact List.le_refl _
  ·exact List.pairwise_iff_getElem.1 hp i j hi' hj' (by omega)
 refine ⟨?_, fun y => ?_⟩
 ·unfold Asc
  rw [List.pairwise_map]
  exact hasc.imp fun h => h
 ·rw [List.mem_map]
  constructor
  ·rintro ⟨s, hs, rfl⟩
   rw [hmem, hzs, List.mem_mergeSort, List.mem_map] at hs
   obtain ⟨x, hx, rfl⟩ := hs
   exact hx
  ·intro h
   exact ⟨lb y, by rw [hmem, hzs, List.mem_mergeSort, List.mem_map]; exact ⟨y, h, rfl⟩, rfl⟩
theorem D0f (o : Int) (d : Ds) : cmpS (srtS (colD o d)) = nmD o d [] := by
 obtain ⟨h1, h2⟩ := E2j (colD o d)
 obtain ⟨h3, h4⟩ := C2f o d (acc := []) List.Pairwise.nil
 exact B5w h1 h3 fun x => by rw [h2, h4]; simp
theorem cs_ne {l : List ByteArray} (h : l ≠ []) : cmpS (srtS l) ≠ [] := by
 obtain ⟨x, r, rfl⟩ := List.exists_cons_of_ne_nil h
 intro e
 have := ((E2j (x :: r)).2 x).2 (by simp)
 rw [e] at this
 cases this
end Go.Proofs.YtjkkgbdoeaihmaaGreatDoor
namespace Go.Abs
set_option linter.unusedSimpArgs false
set_option linter.unusedVariables false
open Go
def C2g (σ : Nat -> Nat) (nx NX : Nat) (H H' Hb : Heap) : Heap :=
 H'.map (fun x => (A1n σ nx NX x.1, A0v (A1n σ nx NX) x.2)) ++ Hb.filter (fun x => !(H.any fun y => σ y.1 == x.1))
theorem A5o (A B : Heap) (b : Nat) : look (A ++ B) b = (look A b).or (look B b) := by
 induction A with
 | nil => rfl
 | cons x A ih =>
  rw [List.cons_append, look_cons, look_cons]
  split
  ·rfl
  ·exact ih
theorem B7u (p : Nat -> Bool) (A : Heap) (b : Nat) : look (A.filter fun x => p x.1) b = if p b then look A b else none := by
 induction A with
 | nil => cases p b <;> rfl
 | cons x A ih =>
  obtain ⟨k, r⟩ := x
  rw [List.filter_cons, look_cons]
  by_cases hk : p k = true
  ·rw [if_pos hk, look_cons, ih]
   by_cases e : k = b
   ·subst e; rw [if_pos rfl, if_pos hk, if_pos rfl]
   ·rw [if_neg e, if_neg e]
  ·rw [if_neg hk, ih]
   by_cases e : k = b
   ·subst e; rw [if_neg hk, if_neg hk]
   ·rw [if_neg e]
theorem C5o {σ : Nat -> Nat} {n : Nat} (hinj : ∀ x y, x < n -> y < n -> σ x = σ y -> x = y) {f : Row -> Row} : ∀ {A : Heap}, (∀ x ∈ A, x.1 < n) -> ∀ {b : Nat}, b < n -> look (A.map fun x => (σ x.1, f x.2)) (σ b) = (look A b).map f
 | [], _, b, _ => rfl
 | (k, r) :: A, h, b, hb => by
  rw [List.map_cons, look_cons, look_cons]
  by_cases e : k = b
  ·subst e; rw [if_pos rfl, if_pos rfl]; rfl
  ·rw [if_neg e, if_neg fun e2 => e (hinj k b (h (k, r) (by simp)) hb e2)]
   exact C5o hinj (fun x hx => h x (by simp [hx])) hb
theorem A8c {σ : Nat -> Nat} {f : Row -> Row} : ∀ {A : Heap} {b : Nat} {r : Row}, look (A.map fun x => (σ x.1, f x.2)) b = some r -> ∃ k ∈ A.map (·.1), σ k = b
 | [], _, _, h => by simp [look] at h
 | (k, r0) :: A, b, r, h => by
  rw [List.map_cons, look_cons] at h
  split at h
  ·rename_i e; exact ⟨k, by simp, e⟩
  ·obtain ⟨k2, h1, h2⟩ := A8c h
   exact ⟨k2, by simp at h1 ⊢; exact .inr h1, h2⟩
section
variable {P : Program} {G : A0t} {σ : Nat -> Nat} {nx nx' NX : Nat} {H H' Hb : Heap}
theorem D2x (hσ : ∀ b, b < nx -> σ b < NX) (hinj : ∀ b c, b < nx -> c < nx -> σ b = σ c -> b = c) : ∀ x y, A1n σ nx NX x = A1n σ nx NX y -> x = y := fun x y e => by
 unfold A1n at e
 split at e <;> split at e
 ·exact hinj _ _ (by assumption) (by assumption) e
 ·have := hσ x (by assumption); omega
 ·have := hσ y (by assumption); omega
 ·omega
theorem C5p (hσ : ∀ b, b < nx -> σ b < NX) (hinj : ∀ b c, b < nx -> c < nx -> σ b = σ c -> b = c) {b : Nat} {r : Row} (h : look H' b = some r) : look (C2g σ nx NX H H' Hb) (A1n σ nx NX b) = some (A0v (A1n σ nx NX) r) := by
 unfold C2g
 rw [A5o]
 have hm : ∀ x ∈ H', x.1 < H'.foldr (fun x n => max (x.1 + 1) n) (b + 1) := by
  clear h
  induction H' with
  | nil => simp
  | cons y A ih =>
   intro x hx
   rw [List.foldr_cons]
   rcases List.mem_cons.1 hx with rfl | hx
   ·omega
   ·have := ih x hx; omega
 have hb : b < H'.foldr (fun x n => max (x.1 + 1) n) (b + 1) := by
  clear h hm
  induction H' with
  | nil => simp
  | cons y A ih => rw [List.foldr_cons]; omega
 rw [C5o (n := H'.foldr (fun x n => max (x.1 + 1) n) (b + 1)) (fun x y _ _ e => D2x hσ hinj x y e) hm hb, h]
 rfl
theorem C8a (hle : nx <= nx') (hσ : ∀ b, b < nx -> σ b < NX) (hH' : ∀ x ∈ H', x.1 < nx') : (∀ k x, look Hb k = some x -> k < NX) -> ∀ k x, look (C2g σ nx NX H H' Hb) k = some x -> k < NX + (nx' - nx) := fun hf k x hk => by
 unfold C2g at hk
 rw [A5o] at hk
 cases h1 : look (H'.map fun x => (A1n σ nx NX x.1, A0v (A1n σ nx NX) x.2)) k with
 | some r =>
  obtain ⟨j, hj, rfl⟩ := A8c h1
  obtain ⟨y, hy, rfl⟩ := List.mem_map.1 hj
  have h2 := hH' y hy
  unfold A1n
  split
  ·have := hσ y.1 (by assumption); omega
  ·omega
 | none =>
  rw [h1, B7u (fun k => !(H.any fun y => σ y.1 == k))] at hk
  simp only [Option.none_or] at hk
  split at hk
  ·have := hf k x hk; omega
  ·cases hk
theorem A1d.lift_std {f : FuncId} {ps : List PV} {r : PV} (h : A1d P G f ps H nx r H' nx') (σ : Nat -> Nat) (NX : Nat) (Hb : Heap)
  (hσ : ∀ b, b < nx -> σ b < NX) (hinj : ∀ b c, b < nx -> c < nx -> σ b = σ c -> b = c) (hle : nx <= nx')
  (hH : ∀ q ∈ H, look Hb (σ q.1) = some (A0v σ q.2) /\ q.1 < nx /\ A0m nx q.2 = true) (hps : A0x nx ps = true)
  (hr : under nx' r = true) (hH' : ∀ q ∈ H', q.1 < nx' /\ A0m nx' q.2 = true) :
  A1d P G f (renL σ ps) Hb NX (ren (A1n σ nx NX) r) (C2g σ nx NX H H' Hb) (NX + (nx' - nx)) := by
 refine A1d.lift h σ NX Hb _ hσ hinj hle hH hps hr hH' fun b x hb => ?_
 unfold C2g at hb
 rw [A5o] at hb
 cases h1 : look (H'.map fun x => (A1n σ nx NX x.1, A0v (A1n σ nx NX) x.2)) b with
 | some r0 =>
  obtain ⟨j, hj, rfl⟩ := A8c h1
  rw [h1] at hb
  simp only [Option.some_or] at hb
  injection hb with hb; subst hb
  cases h2 : look H' j with
  | some r1 =>
   left
   have := C5p (H := H) (Hb := Hb) hσ hinj h2
   unfold C2g at this
   rw [A5o, h1] at this
   simp only [Option.some_or] at this
   injection this with this
   exact ⟨j, r1, h2, rfl, this⟩
  | none =>
   exfalso
   obtain ⟨y, hy, rfl⟩ := List.mem_map.1 hj
   have : ∀ {A : Heap}, y ∈ A -> look A y.1 ≠ none := by
    intro A
    induction A with
    | nil => simp
    | cons z A ih =>
     intro hm
     rw [show z = (z.1, z.2) from rfl, look_cons]
     split
     ·simp
     ·rcases List.mem_cons.1 hm with rfl | hm
      ·rename_i hne; exact absurd rfl hne
      ·exact ih hm
   exact this hy h2
 | none =>
  rw [h1, B7u (fun k => !(H.any fun y => σ y.1 == k))] at hb
  simp only [Option.none_or] at hb
  split at hb
  ·rename_i hc
   right
   refine ⟨hb, fun b0 x0 h0 e => ?_⟩
   have : (H.any fun y => σ y.1 == b) = true := List.any_eq_true.2 ⟨_, A0f h0, by simp [e]⟩
   rw [this] at hc
   cases hc
  ·cases hb
end
end Go.Abs
namespace Go.Proofs.YtjkkgbdoeaihmaaGreatDoor
set_option linter.unusedSimpArgs false
set_option linter.unusedVariables false
open Go Go.Abs
variable {q : Gl}
abbrev tyL : Nat := 22
abbrev A8d (g : Nat) (l : List ByteArray) : Row := .cells tyL [rowP eStr g l]
abbrev funR (b0 b1 b2 : Nat) : Row := .cells 69 [.fn (.func 41) [] [.ptr b0 0, .ptr b1 0, .ptr b2 0]]
def V (g0 g1 : Nat) (A B : List ByteArray) : Heap := (0, A8d g0 A) :: (1, A8d g1 B) :: (2, funR 0 1 2) :: (rowH eStr 9 g0 A ++ rowH eStr 9 g1 B)
structure VR (H : Heap) (g0 g1 : Nat) (A B : List ByteArray) : Prop where
 c0 : Abs.look H 0 = some (A8d g0 A)
 c1 : Abs.look H 1 = some (A8d g1 B)
 fn : Abs.look H 2 = some (funR 0 1 2)
 rA : A0n eStr 9 H g0 A
 rB : A0n eStr 9 H g1 B
theorem V_ok {g0 g1 : Nat} {A B : List ByteArray} (h0 : 3 <= g0) (h1 : 3 <= g1) (h : g0 ≠ g1) : VR (V g0 g1 A B) g0 g1 A B where
 c0 := rfl
 c1 := rfl
 fn := rfl
 rA := (((A0n.head eStr 9 _ g0 A).cons (by omega)).cons (by omega)).cons (by omega)
 rB := by
  refine A0n.cons (A0n.cons (A0n.cons ?_ (by omega)) (by omega)) (by omega)
  cases A with
  | nil => exact A0n.head' _ _ _ _
  | cons x r => exact (A0n.head' eStr 9 g1 B).cons h
section
variable {H : Heap} {g0 g1 : Nat} {A B : List ByteArray}
theorem VR.cons (h : VR H g0 g1 A B) {k : Nat} {r : Row} (h3 : 3 <= k) (h0 : k ≠ g0) (h1 : k ≠ g1) : VR ((k, r) :: H) g0 g1 A B where
 c0 := by rw [look_cons, if_neg (by omega)]; exact h.c0
 c1 := by rw [look_cons, if_neg (by omega)]; exact h.c1
 fn := by rw [look_cons, if_neg (by omega)]; exact h.fn
 rA := h.rA.cons h0
 rB := h.rB.cons h1
theorem B1m {b : Nat} {p : PV} (h : Abs.look H b = some (.cells tyL [p])) : A0s false 1 H (.ptr b 0) = some p := by
 simp only [A0s, h]; rfl
theorem E2k {b ty : Nat} {a b0 c d : T} (h : Abs.look H b = some (.cells ty [.t a, .t b0, .t c, .t d])) : A0s true 4 H (.ptr b 0) = some (.t (.ag [a, b0, c, d])) := by
 simp only [A0s, h]; rfl
theorem C0l (g : Nat) (l : List ByteArray) : A2r (rowP eStr g l) = some [rowP eStr g l] := by cases l <;> rfl
theorem C8b {b : Nat} {p x : PV} (h : Abs.look H b = some (.cells tyL [p])) (hx : A2r x = some [x]) : A1b 1 H (.ptr b 0) x = some (Abs.upd H b (.cells tyL [x])) := by
 simp only [A1b, hx, h]; rfl
theorem D7s {g0 g1 : Nat} {A B : List ByteArray} {x : Nat × Row} (h : x ∈ V g0 g1 A B) : x = (0, A8d g0 A) \/ x = (1, A8d g1 B) \/ x = (2, funR 0 1 2) \/ (A ≠ [] /\ x = (g0, A3h eStr 9 A)) \/ (B ≠ [] /\ x = (g1, A3h eStr 9 B)) := by
 unfold V at h
 rcases List.mem_cons.1 h with h | h
 ·exact .inl h
 rcases List.mem_cons.1 h with h | h
 ·exact .inr (.inl h)
 rcases List.mem_cons.1 h with h | h
 ·exact .inr (.inr (.inl h))
 rcases List.mem_append.1 h with h | h
 ·exact .inr (.inr (.inr (.inl (A2p h))))
 ·exact .inr (.inr (.inr (.inr (A2p h))))
def s7 (kA kB k7 x : Nat) : Nat := if x = 5 then kA else if x = 6 then kB else if x = 7 then k7 else x
theorem B7v {kA kB k7 nx nx' n : Nat} {env env' : List (Nat × PV)} {R : Heap} (h : VR H kA kB A B) (hA : 3 <= kA) (hB : 3 <= kB) (hAB : kA ≠ kB) (h7 : 3 <= k7) (h7A : k7 ≠ kA) (h7B : k7 ≠ kB) (hn : 7 <= nx')
  (hR : ∀ x ∈ R, x.1 = 7 /\ 8 <= nx' /\ Abs.look H k7 = some x.2 /\ A0v (s7 kA kB k7) x.2 = x.2 /\ A0m nx' x.2 = true)
  (he : ∀ x ∈ env', Abs.look env x.1 = some (ren (s7 kA kB k7) x.2) /\ under nx' x.2 = true) :
  Sub Tryz.prog (G q) 5 ⟨env, H, nx, n⟩ ⟨env', V 5 6 A B ++ R, nx', n⟩ := by
 have e0 : s7 kA kB k7 0 = 0 := rfl
 have e1 : s7 kA kB k7 1 = 1 := rfl
 have e2 : s7 kA kB k7 2 = 2 := rfl
 have e5 : s7 kA kB k7 5 = kA := rfl
 have e6 : s7 kA kB k7 6 = kB := rfl
 have e7 : s7 kA kB k7 7 = k7 := rfl
 refine A7s (s7 kA kB k7) rfl (by show 5 <= nx'; omega) (fun x hx => by unfold s7; rw [if_neg (by omega), if_neg (by omega), if_neg (by omega)]) he (fun x hx => ?_) (fun x hx y hy e => ?_)
 ·rcases List.mem_append.1 hx with hx | hx
  ·rcases D7s hx with rfl | rfl | rfl | ⟨hne, rfl⟩ | ⟨hne, rfl⟩
   ·refine ⟨?_, by show 0 < nx'; omega, ?_⟩
    ·show Abs.look H (s7 kA kB k7 0) = _
     rw [e0, h.c0]
     simp only [A0v, renL, A1c, e5]
    ·simp only [A0m, A0x, A0o _ _ _ _ (show 5 < nx' by omega), Bool.and_self]
   ·refine ⟨?_, by show 1 < nx'; omega, ?_⟩
    ·show Abs.look H (s7 kA kB k7 1) = _
     rw [e1, h.c1]
     simp only [A0v, renL, A1c, e6]
    ·simp only [A0m, A0x, A0o _ _ _ _ (show 6 < nx' by omega), Bool.and_self]
   ·refine ⟨?_, by show 2 < nx'; omega, ?_⟩
    ·show Abs.look H (s7 kA kB k7 2) = _
     rw [e2, h.fn]
     simp only [A0v, renL, ren, e0, e1, e2]
    ·simp only [A0m, A0x, under, Bool.and_self, Bool.and_true, Bool.true_and, Bool.and_eq_true, decide_eq_true_eq]
     omega
   ·refine ⟨?_, by show 5 < nx'; omega, A0y _ _ _ _⟩
    show Abs.look H (s7 kA kB k7 5) = _
    rw [e5, A1e]
    exact h.rA.resolve_left hne
   ·refine ⟨?_, by show 6 < nx'; omega, A0y _ _ _ _⟩
    show Abs.look H (s7 kA kB k7 6) = _
    rw [e6, A1e]
    exact h.rB.resolve_left hne
  ·obtain ⟨h1, h2, h3, h4, h5⟩ := hR x hx
   refine ⟨?_, by show x.1 < nx'; omega, h5⟩
   rw [h1, e7, h4]
   exact h3
 ·have cls : ∀ z, z ∈ V 5 6 A B ++ R -> z.1 = 0 \/ z.1 = 1 \/ z.1 = 2 \/ z.1 = 5 \/ z.1 = 6 \/ z.1 = 7 := fun z hz => by
   rcases List.mem_append.1 hz with hz | hz
   ·rcases D7s hz with rfl | rfl | rfl | ⟨hne, rfl⟩ | ⟨hne, rfl⟩
    ·exact .inl rfl
    ·exact .inr (.inl rfl)
    ·exact .inr (.inr (.inl rfl))
    ·exact .inr (.inr (.inr (.inl rfl)))
    ·exact .inr (.inr (.inr (.inr (.inl rfl))))
   ·exact .inr (.inr (.inr (.inr (.inr (hR z hz).1))))
  rcases cls x hx with cx | cx | cx | cx | cx | cx <;> rcases cls y hy with cy | cy | cy | cy | cy | cy <;> rw [cx, cy] at e ⊢ <;> simp only [e0, e1, e2, e5, e6, e7] at e <;> omega
end
def E1g (q : Gl) (d : Ds) : Prop := ∀ (c : List T) (A B : List ByteArray), Abs.IsD d c -> A.length + A6h d <= 1000000 -> B.length + A6h d <= 1000000 ->
 A1d Tryz.prog (G q) 41 [.t (.ag c), .ptr 0 0, .ptr 1 0, .ptr 2 0] (V 3 4 A B) 5 (.t (.tu [])) (V 5 6 (A ++ colD 1 d) (B ++ colD 2 d)) 7
def s5 (b0 b1 b2 g0 g1 : Nat) : Nat -> Nat
 | 0 => b0
 | 1 => b1
 | 2 => b2
 | 3 => g0
 | _ => g1
theorem E2l {d : Ds} (h : E1g q d) {c : List T} (hc : Abs.IsD d c) {A B : List ByteArray} (hA : A.length + A6h d <= 1000000) (hB : B.length + A6h d <= 1000000) {H : Heap} {NX b0 b1 b2 g0 g1 : Nat}
  (c0 : Abs.look H b0 = some (A8d g0 A)) (c1 : Abs.look H b1 = some (A8d g1 B)) (fn : Abs.look H b2 = some (funR b0 b1 b2)) (rA : A0n eStr 9 H g0 A) (rB : A0n eStr 9 H g1 B)
  (l0 : b0 < NX) (l1 : b1 < NX) (l2 : b2 < NX) (m0 : g0 < NX) (m1 : g1 < NX) (n1 : b0 ≠ b1) (n2 : b0 ≠ b2) (n3 : b0 ≠ g0) (n4 : b0 ≠ g1) (n5 : b1 ≠ b2) (n6 : b1 ≠ g0) (n7 : b1 ≠ g1) (n8 : b2 ≠ g0) (n9 : b2 ≠ g1) (n10 : g0 ≠ g1) :
  ∃ H', A1d Tryz.prog (G q) 41 [.t (.ag c), .ptr b0 0, .ptr b1 0, .ptr b2 0] H NX (.t (.tu [])) H' (NX + 2) /\ Abs.look H' b0 = some (A8d NX (A ++ colD 1 d)) /\ Abs.look H' b1 = some (A8d (NX + 1) (B ++ colD 2 d)) /\ Abs.look H' b2 = some (funR b0 b1 b2) /\
   A0n eStr 9 H' NX (A ++ colD 1 d) /\ A0n eStr 9 H' (NX + 1) (B ++ colD 2 d) /\ ((∀ k x, Abs.look H k = some x -> k < NX) -> ∀ k x, Abs.look H' k = some x -> k < NX + 2) := by
 obtain ⟨σ, hs⟩ : ∃ σ, σ = s5 b0 b1 b2 g0 g1 := ⟨_, rfl⟩
 have e0 : σ 0 = b0 := by rw [hs]; rfl
 have e1 : σ 1 = b1 := by rw [hs]; rfl
 have e2 : σ 2 = b2 := by rw [hs]; rfl
 have e3 : σ 3 = g0 := by rw [hs]; rfl
 have e4 : σ 4 = g1 := by rw [hs]; rfl
 have hc5 : ∀ x, x < 5 -> x = 0 \/ x = 1 \/ x = 2 \/ x = 3 \/ x = 4 := fun x hx => by omega
 have hσ : ∀ x, x < 5 -> σ x < NX := fun x hx => by
  rcases hc5 x hx with rfl | rfl | rfl | rfl | rfl
  ·rw [e0]; exact l0
  ·rw [e1]; exact l1
  ·rw [e2]; exact l2
  ·rw [e3]; exact m0
  ·rw [e4]; exact m1
 have hinj : ∀ x y, x < 5 -> y < 5 -> σ x = σ y -> x = y := fun x y hx hy e => by
  rcases hc5 x hx with rfl | rfl | rfl | rfl | rfl <;> rcases hc5 y hy with rfl | rfl | rfl | rfl | rfl <;> simp only [e0, e1, e2, e3, e4] at e <;> omega
 clear hs
 have k0 : A1n σ 5 NX 0 = b0 := (if_pos (by omega)).trans e0
 have k1 : A1n σ 5 NX 1 = b1 := (if_pos (by omega)).trans e1
 have k2 : A1n σ 5 NX 2 = b2 := (if_pos (by omega)).trans e2
 have k5 : A1n σ 5 NX 5 = NX := if_neg (by omega)
 have k6 : A1n σ 5 NX 6 = NX + 1 := if_neg (by omega)
 have call := h c A B hc hA hB
 obtain ⟨A', hA'⟩ : ∃ A', A' = A ++ colD 1 d := ⟨_, rfl⟩
 obtain ⟨B', hB'⟩ : ∃ B', B' = B ++ colD 2 d := ⟨_, rfl⟩
 rw [<- hA', <- hB'] at call ⊢
 have hH' : ∀ x ∈ V 5 6 A' B', x.1 < 7 /\ A0m 7 x.2 = true := fun x hx => by
  rcases D7s hx with rfl | rfl | rfl | ⟨hne, rfl⟩ | ⟨hne, rfl⟩
  ·exact ⟨by show 0 < 7; omega, by simp only [A0m, A0x, A0o _ _ _ _ (show 5 < 7 by omega), Bool.and_self]⟩
  ·exact ⟨by show 1 < 7; omega, by simp only [A0m, A0x, A0o _ _ _ _ (show 6 < 7 by omega), Bool.and_self]⟩
  ·exact ⟨by show 2 < 7; omega, rfl⟩
  ·exact ⟨by show 5 < 7; omega, A0y _ _ _ _⟩
  ·exact ⟨by show 6 < 7; omega, A0y _ _ _ _⟩
 have hl := call.lift_std σ NX H hσ hinj (by omega) (fun x hx => by
  rcases D7s hx with rfl | rfl | rfl | ⟨hne, rfl⟩ | ⟨hne, rfl⟩
  ·refine ⟨?_, by show 0 < 5; omega, by simp only [A0m, A0x, A0o _ _ _ _ (show 3 < 5 by omega), Bool.and_self]⟩
   show Abs.look H (σ 0) = _
   rw [e0, c0]
   simp only [A0v, renL, A1c, e3]
  ·refine ⟨?_, by show 1 < 5; omega, by simp only [A0m, A0x, A0o _ _ _ _ (show 4 < 5 by omega), Bool.and_self]⟩
   show Abs.look H (σ 1) = _
   rw [e1, c1]
   simp only [A0v, renL, A1c, e4]
  ·refine ⟨?_, by show 2 < 5; omega, rfl⟩
   show Abs.look H (σ 2) = _
   rw [e2, fn]
   simp only [A0v, renL, ren, e0, e1, e2]
  ·refine ⟨?_, by show 3 < 5; omega, A0y _ _ _ _⟩
   show Abs.look H (σ 3) = _
   rw [e3, A1e]
   exact rA.resolve_left hne
  ·refine ⟨?_, by show 4 < 5; omega, A0y _ _ _ _⟩
   show Abs.look H (σ 4) = _
   rw [e4, A1e]
   exact rB.resolve_left hne) rfl rfl hH'
 have nw : ∀ b r, Abs.look (V 5 6 A' B') b = some r -> Abs.look (C2g σ 5 NX (V 3 4 A B) (V 5 6 A' B') H) (A1n σ 5 NX b) = some (A0v (A1n σ 5 NX) r) := fun b r hb => C5p hσ hinj hb
 have hV := V_ok (g0 := 5) (g1 := 6) (A := A') (B := B') (by omega) (by omega) (by omega)
 refine ⟨C2g σ 5 NX (V 3 4 A B) (V 5 6 A' B') H, ?_, ?_, ?_, ?_, ?_, ?_, ?_⟩
 ·have ep : renL σ [.t (.ag c), .ptr 0 0, .ptr 1 0, .ptr 2 0] = [.t (.ag c), .ptr b0 0, .ptr b1 0, .ptr b2 0] := by simp only [renL, ren, e0, e1, e2]
  rw [ep] at hl
  exact hl
 ·have := nw 0 _ hV.c0
  rw [k0] at this
  rw [this]
  simp only [A0v, renL, A1c, k5]
 ·have := nw 1 _ hV.c1
  rw [k1] at this
  rw [this]
  simp only [A0v, renL, A1c, k6]
 ·have := nw 2 _ hV.fn
  rw [k2] at this
  rw [this]
  simp only [A0v, renL, ren, k0, k1, k2]
 ·refine hV.rA.imp id fun h5 => ?_
  have := nw 5 _ h5
  rw [k5, A1e] at this
  exact this
 ·refine hV.rB.imp id fun h6 => ?_
  have := nw 6 _ h6
  rw [k6, A1e] at this
  exact this
 ·exact C8a (nx := 5) (nx' := 7) (by omega) hσ fun x hx => (hH' x hx).1
theorem D7t : FnOK Tryz.prog (G q) 41 4 34 A7u [] := by
 obtain ⟨fn, h1, h2, h3, h4, h5⟩ := B8h (q := q)
 exact ⟨fn, h1, h2, h3, h4, by omega⟩
theorem E4k (R : Heap) (a b0 c d : T) : A1b 4 ((7, zD) :: R) (.ptr 7 0) (.t (.ag [a, b0, c, d])) = some ((7, .cells 25 [.t a, .t b0, .t c, .t d]) :: R) := rfl
theorem E2m (name : ByteArray) (nx : Nat) : A6b 9 1 [.string ⟨#[]⟩] 1 [(0, .t (sv name))] nx = some (.row nx 0 1 1, .cells 9 [.t (sv name)]) := rfl
structure Vi where
 j : Nat
 A : List ByteArray
 B : List ByteArray
def SVi (tk : T) (n : Nat) (a : Vi) : A0b := ⟨[(26, .t (iv (a.j : Int))), (25, .t (iv (n : Int))), (24, .t tk), (3, .ptr 2 0)], V 5 6 a.A a.B, 7, 34⟩
structure OkVi (kids : List Ds) (FA FB : List ByteArray) (a : Vi) : Prop where
 le : a.j <= kids.length
 lA : a.A.length + A6i (kids.drop a.j) <= 1000000
 lB : a.B.length + A6i (kids.drop a.j) <= 1000000
 eA : a.A ++ colL 1 (kids.drop a.j) = FA
 eB : a.B ++ colL 2 (kids.drop a.j) = FB
theorem E6x {op : Int} {name : ByteArray} {path : List ByteArray} {kids : List Ds} (hkl : kids.length <= 1000) (hkids : ∀ k ∈ kids, E1g q k) : E1g q (.mk op name path kids) := fun c A B hc hA hB => by
 obtain ⟨tp, tk, rfl, hpa, hk⟩ := hc.parts
 have hlk : A2f (.t tk) = some (.t (iv (kids.length : Int))) := hk.len
 obtain ⟨FA, hFA⟩ : ∃ FA, FA = A ++ colD 1 (.mk op name path kids) := ⟨_, rfl⟩
 obtain ⟨FB, hFB⟩ : ∃ FB, FB = B ++ colD 2 (.mk op name path kids) := ⟨_, rfl⟩
 rw [<- hFA, <- hFB]
 rw [colD, <- List.append_assoc] at hFA hFB
 rw [A6h] at hA hB
 obtain ⟨A1, hA1⟩ : ∃ A1, A1 = A ++ (if op = 1 then [name] else []) := ⟨_, rfl⟩
 obtain ⟨B1, hB1⟩ : ∃ B1, B1 = B ++ (if op = 2 then [name] else []) := ⟨_, rfl⟩
 rw [<- hA1] at hFA
 rw [<- hB1] at hFB
 have lA1 : A1.length <= A.length + 1 := by rw [hA1, List.length_append]; split <;> simp
 have lB1 : B1.length <= B.length + 1 := by rw [hB1, List.length_append]; split <;> simp
 have vr := V_ok (g0 := 3) (g1 := 4) (A := A) (B := B) (by omega) (by omega) (by omega)
 refine D7t.callP rfl ?_
 unfold A7u
 refine A0a A2e ?_
 simp -implicitDefEqProofs [B7p]
 have vr1 := vr.cons (k := 5) (r := dRow op name tp tk) (by omega) (by omega) (by omega)
 obtain ⟨H1, hH1⟩ : ∃ H1, H1 = (5, dRow op name tp tk) :: V 3 4 A B := ⟨_, rfl⟩
 have r5 : Abs.look H1 5 = some (dRow op name tp tk) := by rw [hH1]; rfl
 rw [<- hH1] at vr1
 refine MC.sub (s' := ⟨[(4, .ptr 5 0), (1, .ptr 0 0), (2, .ptr 1 0), (3, .ptr 2 0)], H1, 6, 34⟩) (by rw [hH1]; exact A1i (by simp -implicitDefEqProofs)) rfl ?_
 have d0 : A0s false 1 H1 (.ptr 5 0) = some (.t (iv op)) := by simp only [A0s, r5]; rfl
 have d1 : A0s false 1 H1 (.ptr 5 1) = some (.t (sv name)) := by simp only [A0s, r5]; rfl
 have c0 := B1m vr1.c0
 have c1 := B1m vr1.c1
 refine A2g (α := Unit) (fun _ => ⟨[(4, .ptr 7 0), (3, .ptr 2 0)], V 5 6 A1 B1 ++ [(7, dRow op name tp tk)], 8, 34⟩) (fun _ => True) (fun _ => rfl) ?_ ?_
 ·have row7 : ∀ kA kB k7 : Nat, ∀ H : Heap, Abs.look H k7 = some (dRow op name tp tk) -> ∀ x ∈ [(7, dRow op name tp tk)], x.1 = 7 /\ 8 <= 8 /\ Abs.look H k7 = some x.2 /\ A0v (s7 kA kB k7) x.2 = x.2 /\ A0m 8 x.2 = true := fun kA kB k7 H h x hx => by
   rw [List.mem_singleton.1 hx]
   exact ⟨rfl, by omega, h, rfl, rfl⟩
  by_cases h1 : op = 1
  ·subst h1
   obtain ⟨kA, H2, n2, ap, r2, ne2, hle2, hold, hge⟩ := A4j (e := eStr) (ty := 9) (by' := 16) (nx := 7) (m := [name]) (H := (6, .cells 9 [.t (sv name)]) :: H1) (b := 3) (l := A) (vr1.rA.cons (by omega)) (A7w (e := eStr) (b := 6) (ty := 9) name (by rw [look_cons, if_pos rfl]; rfl)) (by simp; omega) (by simp; omega)
   have ap : appM 9 1 16 ((6, .cells 9 [.t (sv name)]) :: H1) 7 (rowP eStr 3 A) (.row 6 0 1 1) = some (rowP eStr kA (A ++ [name]), H2, n2) := ap
   have o : ∀ k, k ≠ 3 -> k < 6 -> Abs.look H2 k = Abs.look H1 k := fun k h3 h6 => by rw [hold k h3 (by omega), look_cons, if_neg (by omega)]
   have st := C8b (H := H2) (b := 0) (x := rowP eStr kA (A ++ [name])) ((o 0 (by omega) (by omega)).trans vr1.c0) (C0l _ _)
   have eA : A1 = A ++ [name] := by rw [hA1, if_pos rfl]
   have eB : B1 = B := by rw [hB1, if_neg (by decide), List.append_nil]
   refine A0c A2e ?_
   simp -implicitDefEqProofs [d0, d1, c0, E2m, ap, st]
   refine Abs.Next.mk () trivial ?_
   have vr3 : VR (Abs.upd H2 0 (A8d kA (A ++ [name]))) kA 4 (A ++ [name]) B := by
    refine ⟨?_, ?_, ?_, ?_, ?_⟩
    ·rw [A0g, if_pos rfl, o 0 (by omega) (by omega), vr1.c0]; rfl
    ·rw [A0g, if_neg (by omega), o 1 (by omega) (by omega)]; exact vr1.c1
    ·rw [A0g, if_neg (by omega), o 2 (by omega) (by omega)]; exact vr1.fn
    ·exact r2.imp id fun h => by rw [A0g, if_neg (by omega)]; exact h
    ·exact vr1.rB.imp id fun h => by rw [A0g, if_neg (by omega), o 4 (by omega) (by omega)]; exact h
   rw [eA, eB]
   refine B7v vr3 (k7 := 5) (by omega) (by omega) (by omega) (by omega) (by omega) (by omega) (by omega) (row7 _ _ _ _ ?_) ?_
   ·rw [A0g, if_neg (by omega), o 5 (by omega) (by omega)]; exact r5
   ·simp -implicitDefEqProofs [ren, under, s7]
  ·have b1 : (op == 1) = false := by simpa using h1
   by_cases h2 : op = 2
   ·subst h2
    obtain ⟨kB, H2, n2, ap, r2, ne2, hle2, hold, hge⟩ := A4j (e := eStr) (ty := 9) (by' := 16) (nx := 7) (m := [name]) (H := (6, .cells 9 [.t (sv name)]) :: H1) (b := 4) (l := B) (vr1.rB.cons (by omega)) (A7w (e := eStr) (b := 6) (ty := 9) name (by rw [look_cons, if_pos rfl]; rfl)) (by simp; omega) (by simp; omega)
    have ap : appM 9 1 16 ((6, .cells 9 [.t (sv name)]) :: H1) 7 (rowP eStr 4 B) (.row 6 0 1 1) = some (rowP eStr kB (B ++ [name]), H2, n2) := ap
    have o : ∀ k, k ≠ 4 -> k < 6 -> Abs.look H2 k = Abs.look H1 k := fun k h3 h6 => by rw [hold k h3 (by omega), look_cons, if_neg (by omega)]
    have st := C8b (H := H2) (b := 1) (x := rowP eStr kB (B ++ [name])) ((o 1 (by omega) (by omega)).trans vr1.c1) (C0l _ _)
    have eA : A1 = A := by rw [hA1, if_neg (by decide), List.append_nil]
    have eB : B1 = B ++ [name] := by rw [hB1, if_pos rfl]
    refine A0c A2e ?_
    simp -implicitDefEqProofs [d0, d1, c1, E2m, ap, st]
    refine Abs.Next.mk () trivial ?_
    have vr3 : VR (Abs.upd H2 1 (A8d kB (B ++ [name]))) 3 kB A (B ++ [name]) := by
     refine ⟨?_, ?_, ?_, ?_, ?_⟩
     ·rw [A0g, if_neg (by omega), o 0 (by omega) (by omega)]; exact vr1.c0
     ·rw [A0g, if_pos rfl, o 1 (by omega) (by omega), vr1.c1]; rfl
     ·rw [A0g, if_neg (by omega), o 2 (by omega) (by omega)]; exact vr1.fn
     ·exact vr1.rA.imp id fun h => by rw [A0g, if_neg (by omega), o 3 (by omega) (by omega)]; exact h
     ·exact r2.imp id fun h => by rw [A0g, if_neg (by omega)]; exact h
    rw [eA, eB]
    refine B7v vr3 (k7 := 5) (by omega) (by omega) (by omega) (by omega) (by omega) (by omega) (by omega) (row7 _ _ _ _ ?_) ?_
    ·rw [A0g, if_neg (by omega), o 5 (by omega) (by omega)]; exact r5
    ·simp -implicitDefEqProofs [ren, under, s7]
   ·have b2 : (op == 2) = false := by simpa using h2
    have eA : A1 = A := by rw [hA1, if_neg h1, List.append_nil]
    have eB : B1 = B := by rw [hB1, if_neg h2, List.append_nil]
    refine A0c A2e ?_
    simp -implicitDefEqProofs [d0, b1, b2, h1, h2]
    refine Abs.Next.mk () trivial ?_
    rw [eA, eB]
    refine B7v vr1 (k7 := 5) (by omega) (by omega) (by omega) (by omega) (by omega) (by omega) (by omega) (row7 _ _ _ _ r5) ?_
    simp -implicitDefEqProofs [ren, under, s7]
 rintro ⟨⟩ -
 have dd3 : A0s false 1 (V 5 6 A1 B1 ++ [(7, dRow op name tp tk)]) (.ptr 7 3) = some (.t tk) := by
  have : Abs.look (V 5 6 A1 B1 ++ [(7, dRow op name tp tk)]) 7 = some (dRow op name tp tk) := by
   rw [A5o]
   have : Abs.look (V 5 6 A1 B1) 7 = none := by
    cases h : Abs.look (V 5 6 A1 B1) 7 with
    | none => rfl
    | some r => rcases D7s (A0f h) with h | h | h | ⟨_, h⟩ | ⟨_, h⟩ <;> injection h with h _ <;> omega
   rw [this]; rfl
  simp only [A0s, this]; rfl
 refine A0a A2e ?_
 simp -implicitDefEqProofs [dd3, hlk]
 refine A0w ?_
 refine A1l (SVi tk kids.length) (fun a => kids.length - a.j) (OkVi kids FA FB) ⟨0, A1, B1⟩ (fun _ => rfl) ⟨Nat.zero_le _, by show A1.length + A6i (kids.drop 0) <= _; rw [List.drop_zero]; omega, by show B1.length + A6i (kids.drop 0) <= _; rw [List.drop_zero]; omega, by rw [List.drop_zero]; exact hFA.symm, by rw [List.drop_zero]; exact hFB.symm⟩ ?_ rfl ?_
 ·have vr4 := V_ok (g0 := 5) (g1 := 6) (A := A1) (B := B1) (by omega) (by omega) (by omega)
  have vr5 : VR (V 5 6 A1 B1 ++ [(7, dRow op name tp tk)]) 5 6 A1 B1 := by
   have h : ∀ k r, Abs.look (V 5 6 A1 B1) k = some r -> Abs.look (V 5 6 A1 B1 ++ [(7, dRow op name tp tk)]) k = some r := fun k r h => by rw [A5o, h]; rfl
   exact ⟨h _ _ vr4.c0, h _ _ vr4.c1, h _ _ vr4.fn, vr4.rA.imp id (h _ _), vr4.rB.imp id (h _ _)⟩
  have := B7v (q := q) (R := []) (k7 := 7) (nx := 8) (nx' := 7) (n := 34) (env := [(26, .t (iv 0)), (25, .t (iv (kids.length : Int))), (24, .t tk), (3, .ptr 2 0)]) (env' := [(26, .t (iv 0)), (25, .t (iv (kids.length : Int))), (24, .t tk), (3, .ptr 2 0)]) vr5 (by omega) (by omega) (by omega) (by omega) (by omega) (by omega) (by omega) (fun x hx => (by cases hx)) (by simp -implicitDefEqProofs [ren, under, s7])
  rw [List.append_nil] at this
  refine Sub.trans (A1i (by simp -implicitDefEqProofs)) this
 rintro ⟨j, A2, B2⟩ ⟨hj, hlA, hlB, heA, heB⟩
 simp only at hj hlA hlB heA heB
 obtain ⟨H0, hH0⟩ : ∃ H0, H0 = V 5 6 A2 B2 := ⟨_, rfl⟩
 have v0 := V_ok (g0 := 5) (g1 := 6) (A := A2) (B := B2) (by omega) (by omega) (by omega)
 rw [<- hH0] at v0
 have hS : SVi tk kids.length ⟨j, A2, B2⟩ = ⟨[(26, .t (iv (j : Int))), (25, .t (iv (kids.length : Int))), (24, .t tk), (3, .ptr 2 0)], H0, 7, 34⟩ := by rw [hH0]; rfl
 rw [hS]
 by_cases hlt : j < kids.length
 ·obtain ⟨x, hx⟩ : ∃ x, kids[j]? = some x := ⟨_, List.getElem?_eq_getElem hlt⟩
  obtain ⟨kp, ci, h1, h2, h3⟩ := C0i hk hx
  have hvx := hkids x (List.mem_of_getElem? hx)
  have hlt' : (j : Int) < (kids.length : Int) := by omega
  have hxe : kids[j] = x := by rw [List.getElem?_eq_getElem hlt] at hx; injection hx
  rw [List.drop_eq_getElem_cons hlt, hxe] at heA heB hlA hlB
  rw [colL, <- List.append_assoc] at heA heB
  rw [A6i] at hlA hlB
  obtain ⟨j1, hj1⟩ : ∃ j1, j1 = j + 1 := ⟨_, rfl⟩
  have ej : IntKind.i64.wrap ((j : Int) + 1) = (j1 : Int) := A1a (by omega) (by omega)
  rw [<- hj1] at heA heB hlA hlB
  obtain ⟨ca, cb, cc, cd, rfl⟩ : ∃ ca cb cc cd, ci = [ca, cb, cc, cd] := by
   cases x with
   | mk op name path ks =>
    obtain ⟨tp', tk', rfl, _, _⟩ := h3.parts
    exact ⟨_, _, _, _, rfl⟩
  obtain ⟨H2, hH2⟩ : ∃ H2, H2 = ((7, .cells 25 [.t ca, .t cb, .t cc, .t cd]) :: H0 : Heap) := ⟨_, rfl⟩
  have st := E4k H0 ca cb cc cd
  rw [<- hH2] at st
  have v2 : VR H2 5 6 A2 B2 := by rw [hH2]; exact v0.cons (by omega) (by omega) (by omega)
  have l27 : Abs.look H2 7 = some (.cells 25 [.t ca, .t cb, .t cc, .t cd]) := by rw [hH2, look_cons, if_pos rfl]
  have g2 := E2k l27
  have f2 : A0s false 1 H2 (.ptr 2 0) = some (.fn (.func 41) [] [.ptr 0 0, .ptr 1 0, .ptr 2 0]) := by simp only [A0s, v2.fn]; rfl
  obtain ⟨H3, call, w0, w1, w2, wA, wB, wf⟩ := E2l hvx h3 (A := A2) (B := B2) (by omega) (by omega) (H := H2) (NX := 8) (b0 := 0) (b1 := 1) (b2 := 2) (g0 := 5) (g1 := 6) v2.c0 v2.c1 v2.fn v2.rA v2.rB (by omega) (by omega) (by omega) (by omega) (by omega) (by omega) (by omega) (by omega) (by omega) (by omega) (by omega) (by omega) (by omega) (by omega) (by omega)
  obtain ⟨t, ht⟩ : ∃ t, t = hOne [.t (.ag [ca, cb, cc, cd]), .ptr 0 0, .ptr 1 0, .ptr 2 0] H2 8 (.t (.tu []), H3, 10) := ⟨_, rfl⟩
  have C : Ctx Tryz.prog (G q) (orh [] [(41, t)]) := A0z.nil.ctxH (A1r.cons (by rw [ht]; exact A2q call wf) .nil) mixed
  have et : t [.t (.ag [ca, cb, cc, cd]), .ptr 0 0, .ptr 1 0, .ptr 2 0] H2 8 = some (.t (.tu []), H3, 10) := by rw [ht]; exact A2d _ _ _ _
  refine A0c C ?_
  simp -implicitDefEqProofs [hlt, hlt', h1, h2, st, f2, g2, et, ej]
  refine Abs.Next.mk (⟨j1, A2 ++ colD 1 x, B2 ++ colD 2 x⟩ : Vi) ⟨⟨by show j1 <= _; omega, ?_, ?_, heA, heB⟩, by show kids.length - j1 < kids.length - j; omega⟩ ?_
  ·have := B3e 1 x
   show (A2 ++ colD 1 x).length + A6i (kids.drop j1) <= _
   rw [List.length_append]; omega
  ·have := B3e 2 x
   show (B2 ++ colD 2 x).length + A6i (kids.drop j1) <= _
   rw [List.length_append]; omega
  ·have vr6 : VR H3 8 9 (A2 ++ colD 1 x) (B2 ++ colD 2 x) := ⟨w0, w1, w2, wA, wB⟩
   have := B7v (q := q) (R := []) (k7 := 7) (nx := 10) (nx' := 7) (n := 34) (env := [(26, .t (iv (j1 : Int))), (25, .t (iv (kids.length : Int))), (24, .t tk), (3, .ptr 2 0)]) (env' := [(26, .t (iv (j1 : Int))), (25, .t (iv (kids.length : Int))), (24, .t tk), (3, .ptr 2 0)]) vr6 (by omega) (by omega) (by omega) (by omega) (by omega) (by omega) (by omega) (fun x hx => (by cases hx)) (by simp -implicitDefEqProofs [ren, under, s7])
   rw [List.append_nil] at this
   exact Sub.trans (A1i (by simp -implicitDefEqProofs)) this
 ·have hje : j = kids.length := by omega
  have hlt' : ¬ (j : Int) < (kids.length : Int) := by omega
  rw [hje, List.drop_length, colL, List.append_nil] at heA heB
  subst heA heB
  refine A0c A2e ?_
  simp -implicitDefEqProofs [hlt, hlt']
  exact ⟨.inl rfl, ⟨[], H0, 7, 34⟩, [], A1i (by simp -implicitDefEqProofs), rfl, rfl, hH0, rfl⟩
theorem E4l : ∀ {d : Ds}, A8b d -> E1g q d := fun h => by
 induction h with
 | mk op name path kids h1 h2 h3 h4 h5 ih => exact E6x h4 ih
theorem D7u {l : List ByteArray} (g : Nat) (h : l ≠ []) : rowP eStr g l = .row g 0 l.length 1 := by
 cases l with
 | nil => exact absurd rfl h
 | cons x r => rfl
theorem C8c : srtS [] = [] := List.eq_nil_of_length_eq_zero (B3d [])
theorem D7v {l : List ByteArray} (h : l ≠ []) : srtS l ≠ [] := fun e => h (List.eq_nil_of_length_eq_zero (by rw [<- B3d, e]; rfl))
theorem E1h (g : Nat) (l : List ByteArray) : rowP eStr g (srtS l) = rowP eStr g l := by
 by_cases h : l = []
 ·rw [h, C8c]
 ·rw [D7u g h, D7u g (D7v h), B3d]
theorem E4m {H : Heap} {g : Nat} {l m : List ByteArray} (hl : l ≠ []) (h : Abs.look H g = some (sRow (l ++ m))) : toT H (.row g 0 l.length 1) = some (A2h eStr l, [g]) := by
 have tk : (((l ++ m).map sv).map PV.t).take l.length = (l.map sv).map PV.t := by
  rw [<- List.map_take, <- List.map_take, List.take_left]
 have hle : 0 + l.length <= (((l ++ m).map sv).map PV.t).length := by simp
 simp only [toT, h, hle, if_true, List.drop_zero, Nat.mul_one, tk, allT_map_t, Option.map_some]
 cases l with
 | nil => exact absurd rfl hl
 | cons x r => simp only [A2h, slT, C5k]
theorem D7w {H : Heap} {nx b g : Nat} {l : List ByteArray} (hb : Abs.look H b = some (A8d g l)) (hg : A0n eStr 9 H g l) (hbg : b ≠ g) (hl : l.length <= 1000000000) :
  ∃ t1 t2 H1 H2 H3 F, HOK Tryz.prog (G q) 42 t1 /\ t1 [rowP eStr g l] H nx = some (.t (.tu []), H1, nx) /\ A0s false 1 H1 (.ptr b 0) = some (rowP eStr g l) /\ HOK Tryz.prog (G q) 43 t2 /\ t2 [rowP eStr g l] H1 nx = some (cmpP g (srtS l), H2, nx) /\
   A1b 1 H2 (.ptr b 0) (cmpP g (srtS l)) = some H3 /\ Abs.look H3 b = some (.cells tyL [cmpP g (srtS l)]) /\ (∀ H4, (∀ k, k = g -> Abs.look H4 k = Abs.look H3 k) -> toT H4 (cmpP g (srtS l)) = some (A2h eStr (cmpS (srtS l)), F)) /\ ∀ k, k ≠ b -> k ≠ g -> Abs.look H3 k = Abs.look H k := by
 obtain ⟨H1, hH1⟩ : ∃ H1, H1 = if l.isEmpty then H else Abs.upd H g (sRow (srtS l)) := ⟨_, rfl⟩
 have s1 := D7n (q := q) (nx := nx) hg hl
 rw [<- hH1] at s1
 have o1 : ∀ k, k ≠ g -> Abs.look H1 k = Abs.look H k := fun k hk => by
  rw [hH1]
  split
  ·rfl
  ·rw [A0g, if_neg hk]
 have f1 : (∀ b x, Abs.look H b = some x -> b < nx) -> ∀ b x, Abs.look H1 b = some x -> b < nx := fun hf k x hk => by
  rw [hH1] at hk
  split at hk
  ·exact hf k x hk
  ·rw [A0g] at hk
   split at hk
   ·rename_i e
    obtain ⟨r0, h0, _⟩ := A0i hk
    rw [e]; exact hf g _ h0
   ·exact hf k x hk
 have g1 : A0n eStr 9 H1 g (srtS l) := by
  cases l with
  | nil => exact .inl C8c
  | cons x r =>
   right
   rw [hH1]
   simp only [List.isEmpty_cons, Bool.false_eq_true, if_false]
   rw [A0g, if_pos rfl, hg.resolve_left (by simp)]
   exact congrArg some (C7x _).symm
 have s2 := C5n (q := q) (nx := nx) g1 (by rw [B3d]; exact hl)
 rw [E1h] at s2
 obtain ⟨H2, hH2⟩ : ∃ H2, H2 = if (srtS l).isEmpty then H1 else Abs.upd H1 g (sRow (cmpR (srtS l))) := ⟨_, rfl⟩
 rw [<- hH2] at s2
 have o2 : ∀ k, k ≠ g -> Abs.look H2 k = Abs.look H1 k := fun k hk => by
  rw [hH2]
  split
  ·rfl
  ·rw [A0g, if_neg hk]
 have f2 : (∀ b x, Abs.look H1 b = some x -> b < nx) -> ∀ b x, Abs.look H2 b = some x -> b < nx := fun hf k x hk => by
  rw [hH2] at hk
  split at hk
  ·exact hf k x hk
  ·rw [A0g] at hk
   split at hk
   ·rename_i e
    obtain ⟨r0, h0, _⟩ := A0i hk
    rw [e]; exact hf g _ h0
   ·exact hf k x hk
 have b1 : Abs.look H1 b = some (A8d g l) := (o1 b hbg).trans hb
 have b2 : Abs.look H2 b = some (A8d g l) := (o2 b hbg).trans b1
 have hcp : A2r (cmpP g (srtS l)) = some [cmpP g (srtS l)] := by unfold cmpP; split <;> rfl
 have l2 : l ≠ [] -> Abs.look H2 g = some (sRow (cmpR (srtS l))) := fun hne => by
  have hs := D7v hne
  rw [hH2]
  have he : (srtS l).isEmpty = false := by simpa using hs
  rw [he]
  simp only [Bool.false_eq_true, if_false]
  rw [A0g, if_pos rfl, g1.resolve_left hs]
  rfl
 refine ⟨_, _, H1, H2, Abs.upd H2 b (.cells tyL [cmpP g (srtS l)]), if l.isEmpty then [] else [g], A2q s1 f1, A2d _ _ _ _, B1m b1, A2q s2 f2, A2d _ _ _ _, C8b b2 hcp, by rw [A0g, if_pos rfl, b2]; rfl, fun H4 h4 => ?_, fun k hk hkg => by rw [A0g, if_neg hk, o2 k hkg, o1 k hkg]⟩
 by_cases hne : l = []
 ·subst hne
  rw [C8c]
  have : cmpS [] = [] := List.eq_nil_of_length_eq_zero (Nat.le_zero.1 (C2d []))
  rw [this]
  rfl
 ·have hs := D7v hne
  have he : (srtS l).isEmpty = false := by simpa using hs
  have he0 : l.isEmpty = false := by simpa using hne
  unfold cmpP
  rw [he, he0]
  simp only [Bool.false_eq_true, if_false]
  refine E4m (m := List.replicate ((srtS l).length - (cmpS (srtS l)).length) ByteArray.empty) (cs_ne hne) ?_
  rw [h4 g rfl, A0g, if_neg (Ne.symm hbg)]
  exact l2 hne
theorem E4n {H : Heap} {p0 p1 : PV} {t0 t1 : T} {F0 F1 : List Nat} (h0 : toT H p0 = some (t0, F0)) (h1 : toT H p1 = some (t1, F1)) : ∃ F, toT H (oneOf [p0, p1]) = some (.tu [t0, t1], F) := by
 cases h : allT [p0, p1] with
 | some ts =>
  have e := A4s h
  match ts, e with
  | [a, b], e =>
   injection e with e1 e2
   injection e2 with e2 _
   subst e1; subst e2
   simp only [toT, Option.some.injEq, Prod.mk.injEq] at h0 h1
   refine ⟨[], ?_⟩
   have : oneOf [.t a, .t b] = .t (.tu [a, b]) := rfl
   rw [this, toT, h0.1, h1.1]
 | none =>
  refine ⟨F0 ++ (F1 ++ []), ?_⟩
  have : oneOf [p0, p1] = .tu [p0, p1] := by simp only [oneOf, h]
  rw [this]
  simp only [toT, toTs, h0, h1, Option.map_some]
def SNn (H Ha Hb : Heap) (j : Nat) : A0b := ⟨[(15, .t (iv (j : Int))), (14, .t (iv 2)), (13, .row 8 0 2 1), (4, .ptr 1 0), (5, .ptr 2 0)], if j = 0 then H else if j = 1 then Ha else Hb, 9, 32⟩
theorem D2y {c : List T} {d : Ds} (hd : Abs.IsD d c) (hs : A8b d) (hn : A6h d <= 300000) : A1k Tryz.prog (G q) 24 [.ag c] (· = namT d) := by
 have hv := E4l (q := q) hs
 have hlA := B3e 1 d
 have hlB := B3e 2 d
 have eA := D0f 1 d
 have eB := D0f 2 d
 obtain ⟨A, hA⟩ : ∃ A, A = colD 1 d := ⟨_, rfl⟩
 obtain ⟨B, hB⟩ : ∃ B, B = colD 2 d := ⟨_, rfl⟩
 obtain ⟨ca, cb, cc, cd, rfl⟩ : ∃ ca cb cc cd, c = [ca, cb, cc, cd] := by
  cases d with
  | mk op name path ks =>
   obtain ⟨tp', tk', rfl, _, _⟩ := hd.parts
   exact ⟨_, _, _, _, rfl⟩
 have bx : A2r (.t (.ag [ca, cb, cc, cd])) = some [.t ca, .t cb, .t cc, .t cd] := rfl
 refine C3o.call rfl ?_
 unfold B4n
 refine A0a A2e ?_
 simp -implicitDefEqProofs [bx]
 refine A0a A2e ?_
 simp -implicitDefEqProofs
 refine A0a A2e ?_
 simp -implicitDefEqProofs
 have mk1 : exM (.mkf (.func 41) 0) [PV.ptr 1 0, PV.ptr 2 0, PV.ptr 3 0] = some (.fn (.func 41) [] [.ptr 1 0, .ptr 2 0, .ptr 3 0]) := rfl
 have sp1 : ∀ x y : PV, A6e [x] 0 [y] = [y] := fun _ _ => rfl
 refine A0a A2e ?_
 simp -implicitDefEqProofs [mk1, sp1]
 obtain ⟨H1, hH1⟩ : ∃ H1, H1 = ((3, funR 1 2 3) :: (2, A8d 5 []) :: (1, A8d 4 []) :: [(0, .cells 25 [.t ca, .t cb, .t cc, .t cd])] : Heap) := ⟨_, rfl⟩
 have l0 : Abs.look H1 0 = some (.cells 25 [.t ca, .t cb, .t cc, .t cd]) := by rw [hH1]; rfl
 have l1 : Abs.look H1 1 = some (A8d 4 []) := by rw [hH1]; rfl
 have l2 : Abs.look H1 2 = some (A8d 5 []) := by rw [hH1]; rfl
 have l3 : Abs.look H1 3 = some (funR 1 2 3) := by rw [hH1]; rfl
 refine MC.sub (s' := ⟨[(6, .ptr 3 0), (1, .ptr 0 0), (4, .ptr 1 0), (5, .ptr 2 0)], H1, 6, 32⟩) ?_ rfl ?_
 ·rw [hH1]
  exact A7s id rfl (by show 0 <= 6; omega) (fun _ _ => rfl) (by simp -implicitDefEqProofs [ren, under]) (by simp -implicitDefEqProofs [sp1, A0v, renL, ren, A0m, A0x, under, rowP]) (by simp -implicitDefEqProofs)
 have g1 := E2k l0
 have f1 : A0s false 1 H1 (.ptr 3 0) = some (.fn (.func 41) [] [.ptr 1 0, .ptr 2 0, .ptr 3 0]) := by simp only [A0s, l3]; rfl
 obtain ⟨H2, call, w1, w2, w3, wA, wB, wf⟩ := E2l hv hd (A := []) (B := []) (by simp; omega) (by simp; omega) (H := H1) (NX := 6) (b0 := 1) (b1 := 2) (b2 := 3) (g0 := 4) (g1 := 5) l1 l2 l3 (.inl rfl) (.inl rfl) (by omega) (by omega) (by omega) (by omega) (by omega) (by omega) (by omega) (by omega) (by omega) (by omega) (by omega) (by omega) (by omega) (by omega) (by omega)
 rw [List.nil_append, <- hA] at w1 wA
 rw [List.nil_append, <- hB] at w2 wB
 obtain ⟨t, ht⟩ : ∃ t, t = hOne [.t (.ag [ca, cb, cc, cd]), .ptr 1 0, .ptr 2 0, .ptr 3 0] H1 6 (.t (.tu []), H2, 8) := ⟨_, rfl⟩
 have C : Ctx Tryz.prog (G q) (orh [] [(41, t)]) := A0z.nil.ctxH (A1r.cons (by rw [ht]; exact A2q call wf) .nil) mixed
 have et : t [.t (.ag [ca, cb, cc, cd]), .ptr 1 0, .ptr 2 0, .ptr 3 0] H1 6 = some (.t (.tu []), H2, 8) := by rw [ht]; exact A2d _ _ _ _
 refine A0a C ?_
 simp -implicitDefEqProofs [f1, g1, et]
 clear C et ht call
 obtain ⟨H3, hH3⟩ : ∃ H3, H3 = (8, Row.cells 70 [.ptr 1 0, .ptr 2 0]) :: H2 := ⟨_, rfl⟩
 have p8 : Abs.look H3 8 = some (.cells 70 [.ptr 1 0, .ptr 2 0]) := by rw [hH3]; rfl
 have q1 : Abs.look H3 1 = some (A8d 6 A) := by rw [hH3, look_cons, if_neg (by omega)]; exact w1
 have q2 : Abs.look H3 2 = some (A8d 7 B) := by rw [hH3, look_cons, if_neg (by omega)]; exact w2
 have qA : A0n eStr 9 H3 6 A := by rw [hH3]; exact wA.cons (by omega)
 have qB : A0n eStr 9 H3 7 B := by rw [hH3]; exact wB.cons (by omega)
 obtain ⟨t1, t2, X1, X2, Ha, F1, o1, e1, d1, o2, e2, s1, a1, aT, aO⟩ := D7w (q := q) (nx := 9) (b := 1) (g := 6) q1 qA (by omega) (by rw [hA]; omega)
 obtain ⟨t3, t4, Y1, Y2, Hb, F2, o3, e3, d3, o4, e4, s3, b2, bT, bO⟩ := D7w (q := q) (nx := 9) (b := 2) (g := 7) (H := Ha) (l := B) ((aO 2 (by omega) (by omega)).trans q2) (qB.imp id fun h => (aO 7 (by omega) (by omega)).trans h) (by omega) (by rw [hB]; omega)
 have ca8 : Abs.look Ha 8 = some (.cells 70 [.ptr 1 0, .ptr 2 0]) := (aO 8 (by omega) (by omega)).trans p8
 refine A2g (α := Unit) (fun _ => ⟨[(4, .ptr 1 0), (5, .ptr 2 0)], Hb, 9, 32⟩) (fun _ => True) (fun _ => rfl) ?_ ?_
 ·have bs2 : A6b 70 1 [.pointer none] 2 [(0, .ptr 1 0), (1, .ptr 2 0)] 8 = some (.row 8 0 2 1, .cells 70 [.ptr 1 0, .ptr 2 0]) := rfl
  refine A0a A2e ?_
  simp -implicitDefEqProofs [bs2]
  refine A0w ?_
  rw [<- hH3]
  refine A1l (SNn H3 Ha Hb) (fun j => 2 - j) (fun j => j <= 2) 0 (fun _ => rfl) (by omega) (A1i (by simp -implicitDefEqProofs)) rfl ?_
  have w1 : IntKind.i64.wrap 1 = 1 := A1a (n := 1) rfl (by omega)
  have w2 : IntKind.i64.wrap 2 = 2 := A1a (n := 2) rfl (by omega)
  intro j hj
  have hj3 : j = 0 \/ j = 1 \/ j = 2 := by omega
  rcases hj3 with rfl | rfl | rfl
  ·have hS : SNn H3 Ha Hb 0 = ⟨[(15, .t (iv 0)), (14, .t (iv 2)), (13, .row 8 0 2 1), (4, .ptr 1 0), (5, .ptr 2 0)], H3, 9, 32⟩ := rfl
   rw [hS]
   have i0 : A4v 1 (.row 8 0 2 1) (.t (iv 0)) = some (.ptr 8 0) := rfl
   have k0 : A0s false 1 H3 (.ptr 8 0) = some (.ptr 1 0) := by simp only [A0s, p8]; rfl
   have k1 := B1m q1
   have C : Ctx Tryz.prog (G q) (orh [] [(42, t1), (43, t2)]) := A0z.nil.ctxH (A1r.cons o1 (A1r.cons o2 .nil)) mixed
   refine A0c C ?_
   simp -implicitDefEqProofs [i0, k0, k1, e1, d1, e2, s1, w1]
   exact Abs.Next.mk (1 : Nat) ⟨by omega, by omega⟩ (A1i (by simp -implicitDefEqProofs))
  ·have hS : SNn H3 Ha Hb 1 = ⟨[(15, .t (iv 1)), (14, .t (iv 2)), (13, .row 8 0 2 1), (4, .ptr 1 0), (5, .ptr 2 0)], Ha, 9, 32⟩ := rfl
   rw [hS]
   have i0 : A4v 1 (.row 8 0 2 1) (.t (iv 1)) = some (.ptr 8 1) := rfl
   have k0 : A0s false 1 Ha (.ptr 8 1) = some (.ptr 2 0) := by simp only [A0s, ca8]; rfl
   have k1 := B1m ((aO 2 (by omega) (by omega)).trans q2)
   have C : Ctx Tryz.prog (G q) (orh [] [(42, t3), (43, t4)]) := A0z.nil.ctxH (A1r.cons o3 (A1r.cons o4 .nil)) mixed
   refine A0c C ?_
   simp -implicitDefEqProofs [i0, k0, k1, e3, d3, e4, s3, w2]
   exact Abs.Next.mk (2 : Nat) ⟨by omega, by omega⟩ (A1i (by simp -implicitDefEqProofs))
  ·have hS : SNn H3 Ha Hb 2 = ⟨[(15, .t (iv 2)), (14, .t (iv 2)), (13, .row 8 0 2 1), (4, .ptr 1 0), (5, .ptr 2 0)], Hb, 9, 32⟩ := rfl
   rw [hS]
   refine A0c A2e ?_
   simp -implicitDefEqProofs
   exact Abs.Next.mk () trivial (A1i (by simp -implicitDefEqProofs))
 rintro ⟨⟩ -
 have m1 := B1m ((bO 1 (by omega) (by omega)).trans a1)
 have m2 := B1m b2
 have tA := aT Hb (fun k hk => bO k (by omega) (by omega))
 have tB := bT Hb (fun k hk => rfl)
 rw [hA, eA] at tA
 rw [hB, eB] at tB
 refine A0c A2e ?_
 simp -implicitDefEqProofs [-endsM_ret, m1, m2]
 rw [<- hA] at tA
 rw [<- hB] at tB
 obtain ⟨F, hF⟩ := E4n tA tB
 exact C1b (ps := [cmpP 6 (srtS A), cmpP 7 (srtS B)]) (r := namT d) (F := F) rfl hF rfl
section
variable {l : List KT} {rec rec' : Nat -> Res Ds} {k : Nat}
theorem C2h {parts parts' : List Ds} {p' : Nat} {r : Res Ds} (h : A7y parts r = .ok (parts', p')) : ∃ d, r = .ok (d, p') /\ parts' = parts ++ [d] := by
 unfold A7y at h
 split at h
 ·cases h
 ·injection h with h; injection h with e1 e2; subst e1; subst e2
  exact ⟨_, rfl, rfl⟩
end
end Go.Proofs.YtjkkgbdoeaihmaaGreatDoor
