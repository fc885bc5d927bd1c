/-
 Auxiliary facts. No statement of the program stands here.
-/
import Derived.Test.YtjkkgbdoeaihmaaGreatDoorUD3Q20
import Derived.Lib.CountLaws
import Derived.Lib.CutLaws
import Derived.Test.YtjkkgbdoeaihmaaGreatDoorUD3Q16
namespace Go.Proofs.YtjkkgbdoeaihmaaGreatDoor
set_option linter.unusedSimpArgs false
set_option linter.unusedVariables false
open Go Go.Abs
theorem B9v : ∀ (l : List UInt8) (c : UInt8), Lib.indexByte l c = -1 -> c ∉ l
 | [], c, _ => by simp
 | b :: l, c, h => by
  have hge := Lib.indexByte_ge l c
  rw [Lib.indexByte] at h
  split at h
  ·cases h
  ·rename_i hb
   split at h
   ·rename_i h1
    have := B9v l c (by simpa using h1)
    simp only [List.mem_cons, not_or]
    exact ⟨fun e => hb (by simp [e]), this⟩
   ·rename_i h1
    have : ¬ Lib.indexByte l c = -1 := by simpa using h1
    omega
theorem B9w : ∀ (l : List UInt8) (c : UInt8) (i : Nat), Lib.indexByte l c = i -> ∃ w r, l = w ++ c :: r /\ w.length = i /\ c ∉ w
 | [], c, i, h => by rw [Lib.indexByte] at h; omega
 | b :: l, c, i, h => by
  have hge := Lib.indexByte_ge l c
  rw [Lib.indexByte] at h
  split at h
  ·rename_i hb
   have e : b = c := by simpa using hb
   subst e
   exact ⟨[], l, rfl, by simp; omega, by simp⟩
  ·rename_i hb
   split at h
   ·omega
   ·rename_i h1
    have h2 : ¬ Lib.indexByte l c = -1 := by simpa using h1
    obtain ⟨w, r, e, hl, hn⟩ := B9w l c (i - 1) (by omega)
    refine ⟨b :: w, r, by rw [e]; rfl, by simp; omega, ?_⟩
    simp only [List.mem_cons, not_or]
    exact ⟨fun e => hb (by simp [e]), hn⟩
def prt (c : UInt8) : Bool := decide (32 <= c.toNat) && decide (c.toNat <= 126)
theorem D5d (c : UInt8) : prt c = !(decide ((c.toNat : Int) < 32) || decide (126 < (c.toNat : Int))) := by
 have e1 : decide ((c.toNat : Int) < 32) = !decide (32 <= c.toNat) := by
  by_cases h : 32 <= c.toNat
  ·rw [decide_eq_true h, decide_eq_false (by omega)]; rfl
  ·rw [decide_eq_false h, decide_eq_true (by omega)]; rfl
 have e2 : decide (126 < (c.toNat : Int)) = !decide (c.toNat <= 126) := by
  by_cases h : c.toNat <= 126
  ·rw [decide_eq_true h, decide_eq_false (by omega)]; rfl
  ·rw [decide_eq_false h, decide_eq_true (by omega)]; rfl
 rw [e1, e2, prt]
 cases decide (32 <= c.toNat) <;> cases decide (c.toNat <= 126) <;> rfl
theorem A9w (s : ByteArray) (i j : Nat) (h1 : i <= j) (h2 : j <= s.size) : A4a (.t (sv s)) (some (.t (iv (i : Int)))) (some (.t (iv (j : Int)))) = some (.t (sv (s.extract i j))) := by
 have a1 : ¬ (i : Int) < 0 := by omega
 have a2 : ¬ (j : Int) < 0 := by omega
 simp [A4a, boundV, h1, h2]
theorem B9x (s : ByteArray) (i : Nat) (h1 : i <= s.size) : A4a (.t (sv s)) (some (.t (iv (i : Int)))) none = some (.t (sv (s.extract i s.size))) := by
 have a1 : ¬ (i : Int) < 0 := by omega
 simp [A4a, boundV, h1]
theorem C9j (s : ByteArray) (j : Nat) (h2 : j <= s.size) : A4a (.t (sv s)) none (some (.t (iv (j : Int)))) = some (.t (sv (s.extract 0 j))) := by
 have a2 : ¬ (j : Int) < 0 := by omega
 simp [A4a, boundV, h2]
variable {q : Gl}
abbrev scc (s : ByteArray) (a l : Nat) : List T := [sv s, iv (a : Int), iv (l : Int)]
abbrev scr (s : ByteArray) (a l : Nat) : Row := .cells 89 [.t (sv s), .t (iv (a : Int)), .t (iv (l : Int))]
section
variable (s : ByteArray) (a l x : Nat)
theorem sl0 (R : Heap) : A0s false 1 ((0, scr s a l) :: R) (.ptr 0 0) = some (.t (sv s)) := rfl
theorem sl1 (R : Heap) : A0s false 1 ((0, scr s a l) :: R) (.ptr 0 1) = some (.t (iv (a : Int))) := rfl
theorem sl2 (R : Heap) : A0s false 1 ((0, scr s a l) :: R) (.ptr 0 2) = some (.t (iv (l : Int))) := rfl
theorem ss1 (R : Heap) : A1b 1 ((0, scr s a l) :: R) (.ptr 0 1) (.t (iv (x : Int))) = some ((0, scr s x l) :: R) := rfl
theorem ss2 (R : Heap) : A1b 1 ((0, scr s a l) :: R) (.ptr 0 2) (.t (iv (x : Int))) = some ((0, scr s a x) :: R) := rfl
theorem tl0 (t : Row) : A0s false 1 [(1, t), (0, scr s a l)] (.ptr 0 0) = some (.t (sv s)) := rfl
theorem tl1 (t : Row) : A0s false 1 [(1, t), (0, scr s a l)] (.ptr 0 1) = some (.t (iv (a : Int))) := rfl
theorem tl2 (t : Row) : A0s false 1 [(1, t), (0, scr s a l)] (.ptr 0 2) = some (.t (iv (l : Int))) := rfl
theorem ts1 (t : Row) : A1b 1 [(1, t), (0, scr s a l)] (.ptr 0 1) (.t (iv (x : Int))) = some [(1, t), (0, scr s x l)] := rfl
end
def runN (big : Bool) (l : List UInt8) : Nat := (l.takeWhile (A2i big)).length
theorem B1f (big : Bool) (l : List UInt8) : runN big l <= l.length := (List.takeWhile_sublist _).length_le
theorem D5e {p : UInt8 -> Bool} : ∀ {l : List UInt8} {j : Nat} {c : UInt8}, j < (l.takeWhile p).length -> l[j]? = some c -> p c = true
 | [], j, c, h, hc => by simp at hc
 | x :: r, j, c, h, hc => by
  rw [List.takeWhile_cons] at h
  split at h
  ·rename_i hx
   cases j with
   | zero => simp at hc; subst hc; exact hx
   | succ j => exact D5e (l := r) (by simpa using h) (by simpa using hc)
  ·simp at h
theorem D5f {p : UInt8 -> Bool} : ∀ {l : List UInt8} {c : UInt8}, l[(l.takeWhile p).length]? = some c -> p c = false
 | [], c, hc => by simp at hc
 | x :: r, c, hc => by
  rw [List.takeWhile_cons] at hc
  split at hc
  ·exact D5f (l := r) (by simpa using hc)
  ·rename_i hx
   simp at hc; subst hc; simpa using hx
def SRn (big : Bool) (s : ByteArray) (a l p : Nat) : A0b := ⟨[(5, .t (iv (a : Int))), (1, .t (fv (letF big))), (0, .ptr 0 0)], [(0, scr s p l)], 1, 76⟩
theorem C1l (c : UInt8) : IntKind.i32.wrap (c.toNat : Int) = (c.toNat : Int) := by
 have := c.toNat_lt
 unfold IntKind.wrap IntKind.bits IntKind.signed
 simp only [Bool.true_and, Nat.reduceSub]
 have e1 : (2 : Int) ^ 32 = 4294967296 := by decide
 have e2 : (2 : Int) ^ 31 = 2147483648 := by decide
 simp only [e1, e2, ge_iff_le, decide_eq_true_eq]
 split <;> omega
theorem D9r (big : Bool) (c : UInt8) : letR big (c.toNat : Int) = (if big then isUp c else A3l c) := by
 unfold letR; cases big
 ·exact C1i c
 ·exact C6y c
theorem B7b (big : Bool) (x : UInt8) : A2i big x = ((if big then isUp x else A3l x) || A1f x || decide (x.toNat = 45)) := by
 cases big <;> simp only [A2i, Bool.not_true, Bool.not_false, Bool.true_and, Bool.false_and, Bool.or_false, if_true, Bool.false_eq_true, if_false]
 ·cases A1f x <;> cases decide (x.toNat = 45) <;> cases A3l x <;> rfl
 ·cases A1f x <;> cases decide (x.toNat = 45) <;> cases isUp x <;> rfl
def InR (a n p : Nat) : Prop := a <= p /\ p <= a + n
set_option maxHeartbeats 2000000 in
theorem D9s (big : Bool) (s : ByteArray) (a l : Nat) (hs : s.size <= 65536) (ha : a <= s.size) :
  A1d Tryz.prog (G q) 118 [.ptr 0 0, .t (fv (letF big))] [(0, scr s a l)] 1 (.t (sv (bs ((s.data.toList.drop a).take (runN big (s.data.toList.drop a)))))) [(0, scr s (a + runN big (s.data.toList.drop a)) l)] 1 := by
 obtain ⟨n, hn⟩ : ∃ n, n = runN big (s.data.toList.drop a) := ⟨_, rfl⟩
 have hlen : s.data.toList.length = s.size := rfl
 have hnl : a + n <= s.size := by
  have := B1f big (s.data.toList.drop a)
  rw [<- hn, List.length_drop] at this
  omega
 rw [<- hn]
 obtain ⟨z, hz⟩ : ∃ z, z = a + n := ⟨_, rfl⟩
 rw [<- hz]
 refine B2n.callP rfl ?_
 unfold A7j
 refine A0a (ctxF big) ?_
 simp -implicitDefEqProofs
 refine A0a (ctxF big) ?_
 simp -implicitDefEqProofs [sl1]
 refine A2g (α := Unit) (fun _ => SRn big s a l z) (fun _ => True) (fun _ => rfl) ?_ ?_
 ·refine A0w ?_
  refine A1l (SRn big s a l) (fun p => z - p) (InR a n) a (fun _ => rfl) ⟨Nat.le_refl _, by omega⟩ ?_ rfl ?_
  ·refine A0e rfl rfl ?_ ?_ <;> simp -implicitDefEqProofs [SRn]
  ·rintro p ⟨hp1, hp2⟩
   refine A0c (ctxF big) ?_
   by_cases hlt : p < s.size
   ·obtain ⟨c, hc⟩ : ∃ c, s.data.toList[p]? = some c := ⟨_, List.getElem?_eq_getElem hlt⟩
    have ix := A1o s p c hc
    have hc' : (s.data.toList.drop a)[p - a]? = some c := by rw [List.getElem?_drop, show a + (p - a) = p by omega]; exact hc
    have cvF := fun H nx c => orcF big H nx c
    have qd := A8y rDig (c.toNat : Int)
    rw [B2s] at qd
    have lr := D9r big c
    have hpe := B7b big c
    have hgo : p < a + n -> A2i big c = true := fun h => D5e (by show p - a < runN big (s.data.toList.drop a); omega) hc'
    have hst : ¬ p < a + n -> A2i big c = false := fun h => D5f (by
     show (s.data.toList.drop a)[runN big (s.data.toList.drop a)]? = some c
     rw [<- hn, show n = p - a by omega]; exact hc')
    have e1 : IntKind.i64.wrap ((p : Int) + 1) = ((p + 1 : Nat) : Int) := A1a (by omega) (by omega)
    have st1 := ss1 s p l (p + 1) []
    have ci := C1l c
    by_cases hpn : p < a + n
    ·have hpp := hgo hpn
     rw [hpp] at hpe
     cases hL : (if big then isUp c else A3l c : Bool) with
     | true =>
      rw [hL] at lr
      simp -implicitDefEqProofs [SRn, sl0, sl1, hlt, ix, ci, cvF, lr, e1, st1]
      exact Abs.Next.mk (p + 1) ⟨⟨by omega, by omega⟩, by omega⟩ (A0e rfl rfl (by simp -implicitDefEqProofs [SRn]) (by simp -implicitDefEqProofs [SRn, A6e]))
     | false =>
      rw [hL] at lr hpe
      cases hD : A1f c with
      | true =>
       rw [hD] at qd
       simp -implicitDefEqProofs [SRn, sl0, sl1, hlt, ix, ci, cvF, lr, tbF, qd, e1, st1]
       exact Abs.Next.mk (p + 1) ⟨⟨by omega, by omega⟩, by omega⟩ (A0e rfl rfl (by simp -implicitDefEqProofs [SRn]) (by simp -implicitDefEqProofs [SRn, A6e]))
      | false =>
       rw [hD] at qd hpe
       have h45 : c.toNat = 45 := by
        have : decide (c.toNat = 45) = true := by simpa using hpe.symm
        exact of_decide_eq_true this
       have e45 : ((c.toNat : Int) == 45) = true := by rw [h45]; rfl
       simp -implicitDefEqProofs [SRn, sl0, sl1, hlt, ix, ci, cvF, lr, tbF, qd, e45, e1, st1]
       exact Abs.Next.mk (p + 1) ⟨⟨by omega, by omega⟩, by omega⟩ (A0e rfl rfl (by simp -implicitDefEqProofs [SRn]) (by simp -implicitDefEqProofs [SRn, A6e]))
    ·have hpp := hst hpn
     rw [hpp] at hpe
     have hpz : p = z := by omega
     subst hpz
     have hL : (if big then isUp c else A3l c : Bool) = false := by
      cases h : (if big then isUp c else A3l c : Bool) with
      | false => rfl
      | true => rw [h] at hpe; cases hpe
     rw [hL] at lr hpe
     have hD : A1f c = false := by
      cases h : A1f c with
      | false => rfl
      | true => rw [h] at hpe; cases hpe
     rw [hD] at qd hpe
     have e45 : ((c.toNat : Int) == 45) = false := by
      have : decide (c.toNat = 45) = false := by simpa using hpe.symm
      have := of_decide_eq_false this
      rw [beq_eq_false_iff_ne]; omega
     simp -implicitDefEqProofs [SRn, sl0, sl1, hlt, ix, ci, cvF, lr, tbF, qd, e45]
     exact Abs.Next.mk () trivial (A0e rfl rfl (by simp -implicitDefEqProofs [SRn]) (by simp -implicitDefEqProofs [SRn, A6e]))
   ·have hpz : p = z := by omega
    subst hpz
    simp -implicitDefEqProofs [SRn, sl0, sl1, hlt]
    exact Abs.Next.mk () trivial (A0e rfl rfl (by simp -implicitDefEqProofs [SRn]) (by simp -implicitDefEqProofs [SRn, A6e]))
 rintro _ -
 refine A0c (ctxF big) ?_
 have hsl := A9w s a z (by omega) (by omega)
 have e3 : s.extract a z = bs ((s.data.toList.drop a).take n) := by
  rw [<- A9u (s.extract a z), Lib.extract_data, hz, Nat.add_sub_cancel_left]
 rw [e3] at hsl
 simp -implicitDefEqProofs [SRn, sl0, sl1, hsl]
 exact ⟨.inr rfl, _, _, Sub.refl _, rfl, rfl, rfl, rfl⟩
def A1m : Bool -> List UInt8 -> Nat × Nat
 | _, [] => (0, 0)
 | cm, c :: r =>
  if c.toNat = 10 then ((A1m false r).1 + 1, (A1m false r).2 + 1)
  else if cm || decide (c.toNat = 37) then ((A1m true r).1 + 1, (A1m true r).2)
  else if c.toNat = 32 \/ c.toNat = 9 \/ c.toNat = 13 then ((A1m false r).1 + 1, (A1m false r).2)
  else (0, 0)
theorem B7c : ∀ (l : List UInt8) (cm : Bool), (A1m cm l).1 <= l.length /\ (A1m cm l).2 <= l.length
 | [], _ => by simp [A1m]
 | c :: r, cm => by
  have h1 := B7c r false
  have h2 := B7c r true
  rw [A1m]
  split
  ·simp; omega
  ·split
   ·simp; omega
   ·split
    ·simp; omega
    ·simp
structure Sk where
 p : Nat
 ln : Nat
 cm : Bool
def SSk (s : ByteArray) (a : Sk) : A0b := ⟨[(2, .t (bv a.cm)), (0, .ptr 0 0)], [(0, scr s a.p a.ln)], 1, 56⟩
structure OkSk (l : List UInt8) (z zl : Nat) (a : Sk) : Prop where
 le : a.p <= l.length
 e1 : a.p + (A1m a.cm (l.drop a.p)).1 = z
 e2 : a.ln + (A1m a.cm (l.drop a.p)).2 = zl
set_option maxHeartbeats 2000000 in
theorem D5g (s : ByteArray) (a l : Nat) (hs : s.size <= 65536) (ha : a <= s.size) (hl : l <= 1000000) :
  A1d Tryz.prog (G q) 61 [.ptr 0 0] [(0, scr s a l)] 1 (oneOf []) [(0, scr s (a + (A1m false (s.data.toList.drop a)).1) (l + (A1m false (s.data.toList.drop a)).2))] 1 := by
 have hlen : s.data.toList.length = s.size := rfl
 obtain ⟨z, hz⟩ : ∃ z, z = a + (A1m false (s.data.toList.drop a)).1 := ⟨_, rfl⟩
 obtain ⟨zl, hzl⟩ : ∃ z, z = l + (A1m false (s.data.toList.drop a)).2 := ⟨_, rfl⟩
 rw [<- hz, <- hzl]
 have hzb : z <= s.size /\ zl <= 1000000 + 65536 := by
  have := B7c (s.data.toList.drop a) false
  rw [List.length_drop] at this
  omega
 refine B1b.callP rfl ?_
 unfold A6v
 have fin : ∀ (env : List (Nat × PV)), B2b Tryz.prog (G q) 1 [] (fun r0 H0 nx0 => r0 = oneOf [] /\ H0 = [(0, scr s z zl)] /\ nx0 = 1) .normal ⟨env, [(0, scr s z zl)], 1, 56⟩ := fun env => ⟨.inl rfl, _, [], Sub.refl _, rfl, rfl, rfl, rfl⟩
 have finr : ∀ (env : List (Nat × PV)), B2b Tryz.prog (G q) 1 [] (fun r0 H0 nx0 => r0 = oneOf [] /\ H0 = [(0, scr s z zl)] /\ nx0 = 1) .ret ⟨env, [(0, scr s z zl)], 1, 56⟩ := fun env => ⟨.inr rfl, _, [], Sub.refl _, rfl, rfl, rfl, rfl⟩
 refine A0a ctx0 ?_
 simp -implicitDefEqProofs
 refine A0w ?_
 refine A1l (SSk s) (fun a => s.size - a.p) (OkSk s.data.toList z zl) ⟨a, l, false⟩ (fun _ => rfl) ⟨by show a <= _; omega, hz.symm, hzl.symm⟩ ?_ rfl ?_
 ·refine A0e rfl rfl ?_ ?_ <;> simp -implicitDefEqProofs [SSk]
 ·rintro ⟨p, ln, cm⟩ ⟨hp, hq1, hq2⟩
  simp only at hp hq1 hq2
  refine A0c ctx0 ?_
  by_cases hlt : p < s.size
  ·obtain ⟨c, hc⟩ : ∃ c, s.data.toList[p]? = some c := ⟨_, List.getElem?_eq_getElem hlt⟩
   have ix := A1o s p c hc
   have hdrop : s.data.toList.drop p = c :: s.data.toList.drop (p + 1) := by
    have := List.drop_eq_getElem_cons (l := s.data.toList) (i := p) (by omega)
    rw [this, (List.getElem?_eq_some_iff.1 hc).2]
   rw [hdrop, A1m] at hq1 hq2
   obtain ⟨p1, hp1⟩ : ∃ p1, p1 = p + 1 := ⟨_, rfl⟩
   rw [<- hp1] at hq1 hq2
   have e1 : IntKind.i64.wrap ((p : Int) + 1) = (p1 : Int) := by rw [hp1]; exact A1a (by omega) (by omega)
   have hlnb : ln <= 1000000 + 65536 := by omega
   have st1 := fun ln => ss1 s p ln p1 []
   have nxt : ∀ (ln' : Nat) (cm' : Bool) (env : List (Nat × PV)), p1 + (A1m cm' (s.data.toList.drop p1)).1 = z -> ln' + (A1m cm' (s.data.toList.drop p1)).2 = zl -> (∀ q ∈ (SSk s ⟨p1, ln', cm'⟩).env, Abs.look env q.1 = some q.2) ->
     Abs.Next Tryz.prog (G q) 1 (SSk s) (fun a' => OkSk s.data.toList z zl a' /\ s.size - a'.p < s.size - p) ⟨env, [(0, scr s p1 ln')], 1, 56⟩ := by
    intro ln' cm' env h1 h2 h3
    refine Abs.Next.mk ⟨p1, ln', cm'⟩ ⟨⟨by show p1 <= _; omega, h1, h2⟩, by show s.size - p1 < s.size - p; omega⟩ (A0e rfl rfl h3 fun q hq => ?_)
    have e : q = (0, scr s p1 ln') := by simpa [SSk] using hq
    subst e; rfl
   have b10 : ((c.toNat : Int) == 10) = decide (c.toNat = 10) := by
    by_cases h : c.toNat = 10
    ·rw [h]; rfl
    ·rw [decide_eq_false h, beq_eq_false_iff_ne]; omega
   have b37 : ((c.toNat : Int) == 37) = decide (c.toNat = 37) := by
    by_cases h : c.toNat = 37
    ·rw [h]; rfl
    ·rw [decide_eq_false h, beq_eq_false_iff_ne]; omega
   by_cases h10 : c.toNat = 10
   ·rw [if_pos h10] at hq1 hq2
    rw [decide_eq_true h10] at b10
    obtain ⟨ln1, hln1⟩ : ∃ ln1, ln1 = ln + 1 := ⟨_, rfl⟩
    have e2 : IntKind.i64.wrap ((ln : Int) + 1) = (ln1 : Int) := by rw [hln1]; exact A1a (by omega) (by omega)
    have st2 := ss2 s p ln ln1 []
    simp -implicitDefEqProofs [SSk, sl0, sl1, sl2, hlt, ix, b10, e1, e2, st2, st1]
    exact nxt ln1 false _ (by omega) (by omega) (by simp -implicitDefEqProofs [SSk])
   ·rw [if_neg h10] at hq1 hq2
    rw [decide_eq_false h10] at b10
    cases cm with
    | true =>
     simp only [Bool.true_or, if_true] at hq1 hq2
     simp -implicitDefEqProofs [SSk, sl0, sl1, hlt, ix, b10, e1, st1]
     exact nxt ln true _ (by omega) (by omega) (by simp -implicitDefEqProofs [SSk])
    | false =>
     by_cases h37 : c.toNat = 37
     ·rw [decide_eq_true h37] at b37 hq1 hq2
      simp only [Bool.or_true, if_true] at hq1 hq2
      simp -implicitDefEqProofs [SSk, sl0, sl1, hlt, ix, b10, b37, e1, st1]
      exact nxt ln true _ (by omega) (by omega) (by simp -implicitDefEqProofs [SSk])
     ·rw [decide_eq_false h37] at b37 hq1 hq2
      simp only [Bool.or_false, Bool.false_eq_true, if_false] at hq1 hq2
      by_cases h32 : c.toNat = 32
      ·rw [if_pos (.inl h32)] at hq1 hq2
       have b32 : ((c.toNat : Int) != 32) = false := by rw [h32]; rfl
       simp -implicitDefEqProofs [SSk, sl0, sl1, hlt, ix, b10, b37, b32, e1, st1]
       exact nxt ln false _ (by omega) (by omega) (by simp -implicitDefEqProofs [SSk])
      ·have b32 : ((c.toNat : Int) != 32) = true := by rw [bne_iff_ne]; omega
       by_cases h9 : c.toNat = 9
       ·rw [if_pos (.inr (.inl h9))] at hq1 hq2
        have b9 : ((c.toNat : Int) != 9) = false := by rw [h9]; rfl
        simp -implicitDefEqProofs [SSk, sl0, sl1, hlt, ix, b10, b37, b32, b9, e1, st1]
        exact nxt ln false _ (by omega) (by omega) (by simp -implicitDefEqProofs [SSk])
       ·have b9 : ((c.toNat : Int) != 9) = true := by rw [bne_iff_ne]; omega
        by_cases h13 : c.toNat = 13
        ·rw [if_pos (.inr (.inr h13))] at hq1 hq2
         have b13 : ((c.toNat : Int) != 13) = false := by rw [h13]; rfl
         simp -implicitDefEqProofs [SSk, sl0, sl1, hlt, ix, b10, b37, b32, b9, b13, e1, st1]
         exact nxt ln false _ (by omega) (by omega) (by simp -implicitDefEqProofs [SSk])
        ·have b13 : ((c.toNat : Int) != 13) = true := by rw [bne_iff_ne]; omega
         rw [if_neg (by omega)] at hq1 hq2
         have e1 : p = z := by simpa using hq1
         have e2 : ln = zl := by simpa using hq2
         subst e1; subst e2
         simp -implicitDefEqProofs [SSk, sl0, sl1, hlt, ix, b10, b37, b32, b9, b13]
         exact finr _
  ·have hd0 : s.data.toList.drop p = [] := List.drop_eq_nil_of_le (by omega)
   rw [hd0, A1m] at hq1 hq2
   have e1 : p = z := by simpa using hq1
   have e2 : ln = zl := by simpa using hq2
   subst e1; subst e2
   simp -implicitDefEqProofs [SSk, sl0, sl1, hlt]
   exact fin _
abbrev tkc (k : Int) (t : List UInt8) (l : Int) : List T := [iv k, sv (bs t), iv l]
abbrev tkr (k : Int) (t : List UInt8) (l : Int) : Row := .cells 44 [.t (iv k), .t (sv (bs t)), .t (iv l)]
def tokT (k : Int) (t : List UInt8) (l : Int) (e : Int) : T := if e = 0 then .tu [.ag (tkc k t l), iv 0] else .tu [.ag (tkc 0 [] 0), iv e]
theorem bld3 {Φ : A0u} {H : Heap} {nx : Nat} (k l : Int) (t : ByteArray) : A0d Φ H nx (.build [(0, 1), (1, 1), (2, 1)] [.int .i64 0, .string ⟨#[]⟩, .int .i64 0] [0, 1, 2]) [.t (iv k), .t (sv t), .t (iv l)] = some (.t (.ag [iv k, sv t, iv l]), H, nx) := rfl
theorem bld0 {Φ : A0u} {H : Heap} {nx : Nat} : A0d Φ H nx (.build [(0, 1), (1, 1), (2, 1)] [.int .i64 0, .string ⟨#[]⟩, .int .i64 0] []) [] = some (.t (.ag [iv 0, sv ⟨#[]⟩, iv 0]), H, nx) := rfl
theorem sto3 (k l : Int) (t : ByteArray) (x y z : PV) (R : Heap) : A1b 3 ((1, .cells 44 [x, y, z]) :: R) (.ptr 1 0) (.t (.ag [iv k, sv t, iv l])) = some ((1, .cells 44 [.t (iv k), .t (sv t), .t (iv l)]) :: R) := rfl
theorem D9t {Φ : A0u} {H : Heap} {nx : Nat} (k l : Int) (t : ByteArray) : A1z Φ H nx (.build [(0, 1), (1, 1), (2, 1)] [.int .i64 0, .string ⟨#[]⟩, .int .i64 0] [0, 1, 2]) [.t (iv k), .t (sv t), .t (iv l)] = some (.t (.ag [iv k, sv t, iv l])) := rfl
theorem D9u (big : Bool) (s : ByteArray) (a l : Nat) (hs : s.size <= 65536) (ha : a <= s.size) (t : Row) :
  HOK Tryz.prog (G q) 118 (hOne [.ptr 0 0, .t (fv (letF big))] [(1, t), (0, scr s a l)] 2 (.t (sv (bs ((s.data.toList.drop a).take (runN big (s.data.toList.drop a))))), [(1, t), (0, scr s (a + runN big (s.data.toList.drop a)) l)], 2)) := by
 refine A2q ?_ ?_
 ·have h := D9s (q := q) big s a l hs ha
  exact A1d.lift1 (cs := scc s a l) (args := [fv (letF big)]) (cs' := scc s (a + runN big (s.data.toList.drop a)) l) h (b := 0) (NX := 2) (Hb := [(1, t), (0, scr s a l)]) rfl (by omega)
 ·intro _ b x hb
  simp only [Abs.look] at hb
  split at hb
  ·omega
  ·split at hb
   ·omega
   ·cases hb
theorem B9y (big : Bool) (s : ByteArray) (a l : Nat) (k : Int) (hs : s.size <= 65536) (ha : a <= s.size) :
  A1d Tryz.prog (G q) 92 [.ptr 0 0, .t (iv k), .t (fv (letF big))] [(0, scr s a l)] 1
   (.t (tokT k ((s.data.toList.drop a).take (runN big (s.data.toList.drop a))) l (if 32 < runN big (s.data.toList.drop a) then 7 else 0))) [(0, scr s (a + runN big (s.data.toList.drop a)) l)] 1 := by
 have lr := D9u (q := q) big s a l hs ha (.cells 44 [.t (iv 0), .t (sv ⟨#[]⟩), .t (iv 0)])
 have hrl := B1f big (s.data.toList.drop a)
 obtain ⟨n, hn⟩ : ∃ n, n = runN big (s.data.toList.drop a) := ⟨_, rfl⟩
 rw [<- hn] at lr hrl ⊢
 obtain ⟨z, hz⟩ : ∃ z, z = a + n := ⟨_, rfl⟩
 rw [<- hz] at lr ⊢
 obtain ⟨t, ht⟩ : ∃ t, t = (s.data.toList.drop a).take n := ⟨_, rfl⟩
 have hsz : (bs t).size = n := by
  show t.toArray.size = n
  rw [ht]; simp at hrl ⊢; omega
 rw [<- ht] at lr ⊢
 have ctx : Ctx Tryz.prog (G q) (orh [] [(118, _)]) := A0z.nil.ctxH (.cons lr .nil) mixed
 have h1 := fun ps H nx o => A2d ps H nx o
 by_cases h32 : 32 < n
 ·rw [if_pos h32]
  refine A1d.keep1 (cs := scc s z l) (H' := [(1, tkr 0 [] 0), (0, scr s z l)]) (nx' := 2) ?_ rfl
  refine A6w.callP rfl ?_
  refine A0c ctx ?_
  have h32' : (32 : Int) < (n : Int) := by omega
  simp -implicitDefEqProofs [A4n, h1, hsz, h32', -evalK_build, bld0, sto3]
  exact ⟨.inr rfl, _, _, Sub.refl _, rfl, rfl, rfl, rfl⟩
 ·rw [if_neg h32]
  refine A1d.keep1 (cs := scc s z l) (H' := [(1, tkr k t l), (0, scr s z l)]) (nx' := 2) ?_ rfl
  refine A6w.callP rfl ?_
  refine A0c ctx ?_
  have h32' : ¬ (32 : Int) < (n : Int) := by omega
  simp -implicitDefEqProofs [A4n, h1, hsz, h32', tl2, -evalK_build, bld3, sto3]
  exact ⟨.inr rfl, _, _, Sub.refl _, rfl, rfl, rfl, rfl⟩
def minN (l : List UInt8) : Nat := if l.head? == some 45 then 1 else 0
def figN (l : List UInt8) : Nat := minN l + ((l.drop (minN l)).takeWhile A1f).length
theorem B7d (l : List UInt8) : figN l <= l.length := by
 have h := (List.takeWhile_sublist A1f (l := l.drop (minN l))).length_le
 rw [List.length_drop] at h
 unfold figN
 have : minN l <= l.length := by
  unfold minN
  cases l with
  | nil => simp
  | cons c r => split <;> simp
 omega
def figE (t : List UInt8) : Int := if t = [45] then 8 else (numS t).2
noncomputable def C1m : List T -> Option T := g1 tStr fun s => if s.size <= 281474976710656 then some (numT s.data.toList) else none
theorem E3m : GOK Tryz.prog (G q) 119 C1m := B2o fun a s r ha hr => by
 have e : a = sv s := ha
 subst e
 split at hr
 ·rename_i h; injection hr with hr; subst hr; exact C7a s h
 ·cases hr
noncomputable def D5h : Tbl := [(94, B8m rDig), (119, C1m)]
theorem B9z : Ctx Tryz.prog (G q) (orc D5h) := (A0z.cons (A8x B6z) (.cons E3m .nil)).ctx mixed
abbrev tk0 : Row := .cells 44 [.t (iv 0), .t (sv ⟨#[]⟩), .t (iv 0)]
def SFg (s : ByteArray) (a l p : Nat) : A0b := ⟨[(4, .t (iv (a : Int))), (3, .t (iv 0)), (2, .ptr 1 0), (0, .ptr 0 0)], [(1, tk0), (0, scr s p l)], 2, 87⟩
set_option maxHeartbeats 2000000 in
theorem B4x (s : ByteArray) (a l : Nat) (hs : s.size <= 65536) (ha : a < s.size) :
  A1d Tryz.prog (G q) 95 [.ptr 0 0] [(0, scr s a l)] 1
   (.t (tokT 4 ((s.data.toList.drop a).take (figN (s.data.toList.drop a))) l (figE ((s.data.toList.drop a).take (figN (s.data.toList.drop a)))))) [(0, scr s (a + figN (s.data.toList.drop a)) l)] 1 := by
 have hlen : s.data.toList.length = s.size := rfl
 obtain ⟨D, hD⟩ : ∃ D, D = s.data.toList.drop a := ⟨_, rfl⟩
 rw [<- hD]
 have hfl := B7d D
 have hDl : D.length = s.size - a := by rw [hD, List.length_drop, hlen]
 obtain ⟨n, hn⟩ : ∃ n, n = figN D := ⟨_, rfl⟩
 rw [<- hn] at hfl ⊢
 obtain ⟨z, hz⟩ : ∃ z, z = a + n := ⟨_, rfl⟩
 rw [<- hz]
 obtain ⟨t, ht⟩ : ∃ t, t = D.take n := ⟨_, rfl⟩
 rw [<- ht]
 obtain ⟨k, hk⟩ : ∃ k, k = minN D := ⟨_, rfl⟩
 have hkn : k <= n := by rw [hn, hk]; unfold figN; omega
 obtain ⟨c0, hc0⟩ : ∃ c, s.data.toList[a]? = some c := ⟨_, List.getElem?_eq_getElem ha⟩
 have hD0 : D = c0 :: s.data.toList.drop (a + 1) := by
  have := List.drop_eq_getElem_cons (l := s.data.toList) (i := a) (by omega)
  rw [hD, this, (List.getElem?_eq_some_iff.1 hc0).2]
 have ix0 := A1o s a c0 hc0
 have htl : t.length = n := by rw [ht, List.length_take]; omega
 obtain ⟨tk, htk⟩ : ∃ tk : Row, tk = if figE t = 0 then tkr 4 t l else tkr 0 [] 0 := ⟨_, rfl⟩
 -- the end: what is returned, given the text
 have fin : ∀ (env : List (Nat × PV)), Abs.look env 2 = some (.ptr 1 0) -> Abs.look env 3 = some (.t (iv (figE t))) ->
   B2b Tryz.prog (G q) 1 [.cell 2 true 3, .tmp 3] (fun r0 H0 nx0 => r0 = PV.t (tokT 4 t l (figE t)) /\ H0 = [(1, tk), (0, scr s z l)] /\ nx0 = 2) .ret ⟨env, [(1, tk), (0, scr s z l)], 2, 87⟩ := by
  intro env h2 h3
  by_cases h0 : figE t = 0
  ·rw [if_pos h0] at htk
   refine ⟨.inr rfl, _, [.t (.ag (tkc 4 t l)), .t (iv (figE t))], Sub.refl _, ?_, ?_, rfl, rfl⟩
   ·simp [resM, h2, h3, htk, A0s, agOf]
   ·simp [tokT, h0]
  ·rw [if_neg h0] at htk
   refine ⟨.inr rfl, _, [.t (.ag (tkc 0 [] 0)), .t (iv (figE t))], Sub.refl _, ?_, ?_, rfl, rfl⟩
   ·simp [resM, h2, h3, htk, A0s, agOf]
   ·simp [tokT, h0]
 refine A1d.keep1 (cs := scc s z l) (H' := [(1, tk), (0, scr s z l)]) (nx' := 2) ?_ rfl
 refine A9s.callP rfl ?_
 unfold A5w
 refine A0a B9z ?_
 simp -implicitDefEqProofs
 refine A0a B9z ?_
 simp -implicitDefEqProofs [tl1]
 -- the sign
 have e45 : ((c0.toNat : Int) == 45) = (c0 == 45) := by
  by_cases h : c0 = 45
  ·subst h; rfl
  ·have : ¬ c0.toNat = 45 := fun e => h (UInt8.toNat_inj.1 e)
   rw [beq_eq_false_iff_ne.2 h, beq_eq_false_iff_ne]; omega
 have hk' : k = if c0 == 45 then 1 else 0 := by
  rw [hk, hD0]; unfold minN
  cases h : (c0 == 45) <;> simp [h]
 refine A2g (α := Unit) (fun _ => SFg s a l (a + k)) (fun _ => True) (fun _ => rfl) ?_ ?_
 ·refine A0c B9z ?_
  cases h45 : (c0 == 45) with
  | true =>
   rw [h45] at hk'
   obtain ⟨a1, ha1⟩ : ∃ a1, a1 = a + 1 := ⟨_, rfl⟩
   have e1 : IntKind.i64.wrap ((a : Int) + 1) = (a1 : Int) := by rw [ha1]; exact A1a (by omega) (by omega)
   have st := fun t => ts1 s a l a1 t
   have : a + k = a1 := by rw [hk', ha1]; rfl
   rw [this]
   simp -implicitDefEqProofs [tl0, tl1, ix0, e45, h45, e1, st]
   exact Abs.Next.mk () trivial (A0e rfl rfl (by simp -implicitDefEqProofs [SFg]) (by simp -implicitDefEqProofs [SFg]))
  | false =>
   rw [h45] at hk'
   have : a + k = a := by rw [hk']; rfl
   rw [this]
   simp -implicitDefEqProofs [tl0, tl1, ix0, e45, h45]
   exact Abs.Next.mk () trivial (A0e rfl rfl (by simp -implicitDefEqProofs [SFg]) (by simp -implicitDefEqProofs [SFg]))
 rintro _ -
 -- the digits
 refine A2g (α := Unit) (fun _ => SFg s a l z) (fun _ => True) (fun _ => rfl) ?_ ?_
 ·refine A0w ?_
  refine A1l (SFg s a l) (fun p => z - p) (InR (a + k) (n - k)) (a + k) (fun _ => rfl) ⟨Nat.le_refl _, by omega⟩ (Sub.refl _) rfl ?_
  ·rintro p ⟨hp1, hp2⟩
   refine A0c B9z ?_
   by_cases hlt : p < s.size
   ·obtain ⟨c, hc⟩ : ∃ c, s.data.toList[p]? = some c := ⟨_, List.getElem?_eq_getElem hlt⟩
    have ix := A1o s p c hc
    have hc' : (D.drop k)[p - (a + k)]? = some c := by rw [hD, List.getElem?_drop, List.getElem?_drop, show a + (k + (p - (a + k))) = p by omega]; exact hc
    have hnk : n - k = ((D.drop k).takeWhile A1f).length := by rw [hn, hk]; unfold figN; omega
    have qd := A8y rDig (c.toNat : Int)
    rw [B2s] at qd
    have ci := C1l c
    obtain ⟨p1, hp1'⟩ : ∃ p1, p1 = p + 1 := ⟨_, rfl⟩
    have e1 : IntKind.i64.wrap ((p : Int) + 1) = (p1 : Int) := by rw [hp1']; exact A1a (by omega) (by omega)
    have st := fun t => ts1 s p l p1 t
    by_cases hpn : p < z
    ·have hd : A1f c = true := D5e (by rw [<- hnk]; omega) hc'
     rw [hd] at qd
     simp -implicitDefEqProofs [SFg, tl0, tl1, hlt, ix, ci, D5h, qd, e1, st]
     exact Abs.Next.mk p1 ⟨⟨by omega, by omega⟩, by omega⟩ (A0e rfl rfl (by simp -implicitDefEqProofs [SFg]) (by simp -implicitDefEqProofs [SFg]))
    ·have hd : A1f c = false := D5f (by rw [<- hnk, show n - k = p - (a + k) by omega]; exact hc')
     rw [hd] at qd
     have hpz : p = z := by omega
     subst hpz
     simp -implicitDefEqProofs [SFg, tl0, tl1, hlt, ix, ci, D5h, qd]
     exact Abs.Next.mk () trivial (A0e rfl rfl (by simp -implicitDefEqProofs [SFg]) (by simp -implicitDefEqProofs [SFg]))
   ·have hpz : p = z := by omega
    subst hpz
    simp -implicitDefEqProofs [SFg, tl0, tl1, hlt]
    exact Abs.Next.mk () trivial (A0e rfl rfl (by simp -implicitDefEqProofs [SFg]) (by simp -implicitDefEqProofs [SFg]))
 rintro _ -
 have hsl := A9w s a z (by omega) (by omega)
 have e3 : s.extract a z = bs t := by
  rw [<- A9u (s.extract a z), Lib.extract_data, hz, Nat.add_sub_cancel_left, <- hD, ht]
 rw [e3] at hsl
 refine A0a B9z ?_
 simp -implicitDefEqProofs [SFg, tl0, tl1, hsl]
 refine A0c B9z ?_
 have gn : C1m [.v (.string (bs t))] = some (numT t) := by
  rw [C1m, B2p (τ := tStr) (x := bs t) rfl, if_pos (by show t.toArray.size <= _; simp; omega)]
 by_cases ht45 : t = [45]
 ·have hE : figE t = 8 := by rw [figE, if_pos ht45]
  have b1 : (t == [45]) = true := by rw [ht45]; rfl
  rw [hE] at fin htk
  rw [if_neg (by omega)] at htk
  subst htk
  rw [hE]
  simp -implicitDefEqProofs [A5i, b1, -evalK_build, bld0, sto3]
  exact fin _ rfl rfl
 ·have hE : figE t = (numS t).2 := by rw [figE, if_neg ht45]
  have b1 : (t == [45]) = false := by simpa using ht45
  by_cases h0 : (numS t).2 = 0
  ·rw [hE, h0] at fin htk
   rw [if_pos rfl] at htk
   subst htk
   rw [hE, h0]
   have b2 : ((numS t).2 != 0) = false := by rw [h0]; rfl
   simp -implicitDefEqProofs [A5i, b1, D5h, gn, extractV, b2, tl2, -evalK_build, bld3, sto3]
   exact fin _ rfl rfl
  ·have b2 : ((numS t).2 != 0) = true := by rw [bne_iff_ne]; exact h0
   rw [hE] at fin htk
   rw [if_neg h0] at htk
   subst htk
   rw [hE]
   simp -implicitDefEqProofs [A5i, b1, D5h, gn, extractV, b2, -evalK_build, bld0, sto3]
   exact fin _ rfl rfl
def quoN : List UInt8 -> Nat × Int
 | [] => (0, 9)
 | c :: r => if c.toNat = 34 then (0, 0) else if prt c then ((quoN r).1 + 1, (quoN r).2) else (0, 8)
theorem B7e : ∀ l, (quoN l).1 <= l.length /\ ((quoN l).2 = 0 -> (quoN l).1 < l.length) /\ ((quoN l).2 = 0 \/ (quoN l).2 = 8 \/ (quoN l).2 = 9)
 | [] => by simp [quoN]
 | c :: r => by
  obtain ⟨h1, h2, h3⟩ := B7e r
  rw [quoN]
  split
  ·simp
  ·split
   ·refine ⟨by simp; omega, fun h => by have := h2 h; simp; omega, h3⟩
   ·simp
structure OkQ (l : List UInt8) (z : Nat) (e : Int) (a p : Nat) : Prop where
 lo : a <= p
 le : p <= l.length
 e1 : p + (quoN (l.drop p)).1 = z
 e2 : (quoN (l.drop p)).2 = e
def SQ (s : ByteArray) (a l p : Nat) : A0b := ⟨[(4, .t (iv (a : Int))), (3, .t (iv 0)), (2, .ptr 1 0), (0, .ptr 0 0)], [(1, tk0), (0, scr s p l)], 2, 90⟩
set_option maxHeartbeats 2000000 in
theorem C4i (s : ByteArray) (a l : Nat) (hs : s.size <= 65536) (ha : a < s.size) :
  A1d Tryz.prog (G q) 96 [.ptr 0 0] [(0, scr s a l)] 1
   (.t (tokT 3 ((s.data.toList.drop (a + 1)).take (quoN (s.data.toList.drop (a + 1))).1) l (quoN (s.data.toList.drop (a + 1))).2))
   [(0, scr s (a + 1 + (quoN (s.data.toList.drop (a + 1))).1 + (if (quoN (s.data.toList.drop (a + 1))).2 = 0 then 1 else 0)) l)] 1 := by
 have hlen : s.data.toList.length = s.size := rfl
 obtain ⟨a1, ha1⟩ : ∃ a1, a1 = a + 1 := ⟨_, rfl⟩
 rw [<- ha1]
 obtain ⟨D, hD⟩ : ∃ D, D = s.data.toList.drop a1 := ⟨_, rfl⟩
 rw [<- hD]
 obtain ⟨hq1, hq2, hq3⟩ := B7e D
 have hDl : D.length = s.size - a1 := by rw [hD, List.length_drop, hlen]
 obtain ⟨n, hn⟩ : ∃ n, n = (quoN D).1 := ⟨_, rfl⟩
 obtain ⟨e, he⟩ : ∃ e, e = (quoN D).2 := ⟨_, rfl⟩
 rw [<- hn, <- he] at hq2
 rw [<- hn] at hq1
 rw [<- he] at hq3
 rw [<- hn, <- he]
 obtain ⟨t, ht⟩ : ∃ t, t = D.take n := ⟨_, rfl⟩
 rw [<- ht]
 obtain ⟨z, hz⟩ : ∃ z, z = a1 + n := ⟨_, rfl⟩
 rw [<- hz]
 obtain ⟨y, hy⟩ : ∃ y, y = z + (if e = 0 then 1 else 0) := ⟨_, rfl⟩
 rw [<- hy]
 obtain ⟨tk, htk⟩ : ∃ tk : Row, tk = if e = 0 then tkr 3 t l else tkr 0 [] 0 := ⟨_, rfl⟩
 have fin : ∀ (env : List (Nat × PV)), Abs.look env 2 = some (.ptr 1 0) -> Abs.look env 3 = some (.t (iv e)) ->
   B2b Tryz.prog (G q) 1 [.cell 2 true 3, .tmp 3] (fun r0 H0 nx0 => r0 = PV.t (tokT 3 t l e) /\ H0 = [(1, tk), (0, scr s y l)] /\ nx0 = 2) .ret ⟨env, [(1, tk), (0, scr s y l)], 2, 90⟩ := by
  intro env h2 h3
  by_cases h0 : e = 0
  ·rw [if_pos h0] at htk
   refine ⟨.inr rfl, _, [.t (.ag (tkc 3 t l)), .t (iv e)], Sub.refl _, ?_, ?_, rfl, rfl⟩
   ·simp [resM, h2, h3, htk, A0s, agOf]
   ·simp [tokT, h0]
  ·rw [if_neg h0] at htk
   refine ⟨.inr rfl, _, [.t (.ag (tkc 0 [] 0)), .t (iv e)], Sub.refl _, ?_, ?_, rfl, rfl⟩
   ·simp [resM, h2, h3, htk, A0s, agOf]
   ·simp [tokT, h0]
 refine A1d.keep1 (cs := scc s y l) (H' := [(1, tk), (0, scr s y l)]) (nx' := 2) ?_ rfl
 refine A9t.callP rfl ?_
 unfold A5x
 have e0 : IntKind.i64.wrap ((a : Int) + 1) = (a1 : Int) := by rw [ha1]; exact A1a (by omega) (by omega)
 have st0 := fun t => ts1 s a l a1 t
 refine A0a ctx0 ?_
 simp -implicitDefEqProofs
 refine A0a ctx0 ?_
 simp -implicitDefEqProofs [tl1, e0, st0]
 refine A0a ctx0 ?_
 simp -implicitDefEqProofs [tl1]
 refine A2g (α := Unit) (fun _ => SQ s a1 l z) (fun _ => e = 9 /\ z = s.size) (fun _ => rfl) ?_ ?_
 ·refine A0w ?_
  refine A1l (SQ s a1 l) (fun p => s.size - p) (OkQ s.data.toList z e a1) a1 (fun _ => rfl) ⟨Nat.le_refl _, by omega, by rw [<- hD, <- hn, hz], by rw [<- hD, <- he]⟩ ?_ rfl ?_
  ·refine A0e rfl rfl ?_ ?_ <;> simp -implicitDefEqProofs [SQ]
  ·rintro p ⟨hp0, hp, hp1, hp2⟩
   refine A0c ctx0 ?_
   by_cases hlt : p < s.size
   ·obtain ⟨c, hc⟩ : ∃ c, s.data.toList[p]? = some c := ⟨_, List.getElem?_eq_getElem hlt⟩
    have ix := A1o s p c hc
    have hdrop : s.data.toList.drop p = c :: s.data.toList.drop (p + 1) := by
     have := List.drop_eq_getElem_cons (l := s.data.toList) (i := p) (by omega)
     rw [this, (List.getElem?_eq_some_iff.1 hc).2]
    rw [hdrop, quoN] at hp1 hp2
    obtain ⟨p1, hp1'⟩ : ∃ p1, p1 = p + 1 := ⟨_, rfl⟩
    rw [<- hp1'] at hp1 hp2
    have e1 : IntKind.i64.wrap ((p : Int) + 1) = (p1 : Int) := by rw [hp1']; exact A1a (by omega) (by omega)
    have st := fun t => ts1 s p l p1 t
    have b34 : ((c.toNat : Int) == 34) = decide (c.toNat = 34) := by
     by_cases h : c.toNat = 34
     ·rw [h]; rfl
     ·rw [decide_eq_false h, beq_eq_false_iff_ne]; omega
    by_cases h34 : c.toNat = 34
    ·rw [if_pos h34] at hp1 hp2
     rw [decide_eq_true h34] at b34
     have hpz : p = z := by simpa using hp1
     have he0 : e = 0 := by simpa using hp2.symm
     rw [if_pos he0] at htk hy
     have hyp : y = p1 := by omega
     have e2 : IntKind.i64.wrap ((p1 : Int) - 1) = (z : Int) := by rw [A4h (by omega) (by omega)]; omega
     have hsl := A9w s a1 z (by omega) (by omega)
     have e3 : s.extract a1 z = bs t := by
      rw [<- A9u (s.extract a1 z), Lib.extract_data, hz, Nat.add_sub_cancel_left, <- hD, ht]
     rw [e3] at hsl
     subst htk
     rw [hyp, he0] at fin
     simp -implicitDefEqProofs [SQ, tl0, tl1, tl2, hlt, ix, b34, e1, st, e2, hsl, -evalK_build, -evalQ_build, D9t, sto3, hyp, he0]
     exact fin _ rfl rfl
    ·rw [if_neg h34] at hp1 hp2
     rw [decide_eq_false h34] at b34
     have hk := D5d c
     have bad : prt c = false -> p = z /\ e = 8 /\ y = p := by
      intro h
      rw [h] at hp1 hp2
      simp at hp1 hp2
      refine ⟨hp1, hp2.symm, ?_⟩
      rw [if_neg (by omega)] at hy
      omega
     cases t1 : decide ((c.toNat : Int) < 32) with
     | true =>
      rw [t1] at hk
      obtain ⟨h1, h2, h3⟩ := bad hk
      rw [if_neg (by omega)] at htk
      subst htk
      rw [h3, h2] at fin
      simp -implicitDefEqProofs [SQ, tl0, tl1, hlt, ix, b34, t1, -evalK_build, bld0, sto3, h3, h2]
      exact fin _ rfl rfl
     | false =>
      cases t2 : decide (126 < (c.toNat : Int)) with
      | true =>
       rw [t1, t2] at hk
       obtain ⟨h1, h2, h3⟩ := bad hk
       rw [if_neg (by omega)] at htk
       subst htk
       rw [h3, h2] at fin
       simp -implicitDefEqProofs [SQ, tl0, tl1, hlt, ix, b34, t1, t2, -evalK_build, bld0, sto3, h3, h2]
       exact fin _ rfl rfl
      | false =>
       rw [t1, t2] at hk
       rw [hk] at hp1 hp2
       simp only [Bool.or_self, Bool.not_false, if_true] at hp1 hp2
       simp -implicitDefEqProofs [SQ, tl0, tl1, hlt, ix, b34, t1, t2, e1, st]
       exact Abs.Next.mk p1 ⟨⟨by omega, by omega, by omega, hp2⟩, by omega⟩ (A0e rfl rfl (by simp -implicitDefEqProofs [SQ]) (by simp -implicitDefEqProofs [SQ]))
   ·have hd0 : s.data.toList.drop p = [] := List.drop_eq_nil_of_le (by omega)
    rw [hd0, quoN] at hp1 hp2
    have h1 : p = z := by simpa using hp1
    have h2 : e = 9 := by simpa using hp2.symm
    subst h1
    simp -implicitDefEqProofs [SQ, tl0, tl1, hlt]
    exact Abs.Next.mk () ⟨h2, by omega⟩ (A0e rfl rfl (by simp -implicitDefEqProofs [SQ]) (by simp -implicitDefEqProofs [SQ]))
 rintro _ ⟨h9, hzs⟩
 refine A0c ctx0 ?_
 rw [if_neg (by omega)] at htk hy
 subst htk
 have hyz : y = z := by omega
 rw [hyz, h9] at fin
 simp -implicitDefEqProofs [SQ, -evalK_build, bld0, sto3, hyz, h9]
 exact fin _ rfl rfl
def symC : List UInt8 := [40, 41, 91, 93, 60, 62, 123, 125, 44, 46, 59, 58, 61, 38, 124, 47, 35, 64]
def symS (D : List UInt8) : Nat × Int :=
 if Lib.hasPrefix D [60, 33] || Lib.hasPrefix D [33, 62] then (2, 0) else if (D.head?).any symC.contains then (1, 0) else (0, 8)
theorem E3n (l : List UInt8) (c : UInt8) : decide (Lib.indexByte l c < 0) = !l.contains c := by
 have hge := Lib.indexByte_ge l c
 by_cases h : Lib.indexByte l c = -1
 ·have := B9v l c h
  rw [h]
  have h2 : l.contains c = false := by simpa using this
  rw [h2]; rfl
 ·obtain ⟨w, r, e, _, _⟩ := B9w l c (Lib.indexByte l c).toNat (by omega)
  have h2 : l.contains c = true := by rw [e]; simp
  rw [h2, decide_eq_false (by omega)]; rfl
noncomputable def tbSy : Tbl := [(120, A6o), (121, A8j)]
theorem D9v : Ctx Tryz.prog (G q) (orc tbSy) := (A0z.cons D1y (.cons D1z .nil)).ctx mixed
set_option maxHeartbeats 2000000 in
theorem C4j (s : ByteArray) (a l : Nat) (hs : s.size <= 65536) (ha : a < s.size) :
  A1d Tryz.prog (G q) 97 [.ptr 0 0] [(0, scr s a l)] 1
   (.t (tokT 5 ((s.data.toList.drop a).take (symS (s.data.toList.drop a)).1) l (symS (s.data.toList.drop a)).2))
   [(0, scr s (a + (symS (s.data.toList.drop a)).1) l)] 1 := by
 have hlen : s.data.toList.length = s.size := rfl
 obtain ⟨D, hD⟩ : ∃ D, D = s.data.toList.drop a := ⟨_, rfl⟩
 rw [<- hD]
 have hDl : D.length = s.size - a := by rw [hD, List.length_drop, hlen]
 obtain ⟨c0, hc0⟩ : ∃ c, s.data.toList[a]? = some c := ⟨_, List.getElem?_eq_getElem ha⟩
 have hD0 : D = c0 :: s.data.toList.drop (a + 1) := by
  have := List.drop_eq_getElem_cons (l := s.data.toList) (i := a) (by omega)
  rw [hD, this, (List.getElem?_eq_some_iff.1 hc0).2]
 have ix0 := A1o s a c0 hc0
 have hx : (s.extract a s.size).data.toList = D := by
  rw [Lib.extract_data, <- hD]; exact List.take_of_length_le (by omega)
 have hsf := B9x s a (by omega)
 have q1 : ∀ p : ByteArray, A6o [.v (.string (s.extract a s.size)), .v (.string p)] = some (bv (Lib.hasPrefix D p.data.toList)) := by
  intro p
  rw [A6o, A8v (τ := tStr) (σ := tStr) (x := s.extract a s.size) (y := p) rfl rfl, hx]
 have q2 : A8j [.v (.string ⟨#[40, 41, 91, 93, 60, 62, 123, 125, 44, 46, 59, 58, 61, 38, 124, 47, 35, 64]⟩), cv c0] = some (iv (Lib.indexByte symC c0)) := by
  have : (((c0.toNat : Nat) : Int)).toNat.toUInt8 = c0 := by simp
  simp only [A8j, this]
  rfl
 have hneg := E3n symC c0
 have q11 := q1 ⟨#[60, 33]⟩
 have q12 := q1 ⟨#[33, 62]⟩
 -- the end
 have fin : ∀ (k' : Int) (t' : List UInt8) (l' e : Int) (z : Nat) (env : List (Nat × PV)), tokT 5 (D.take (symS D).1) l (symS D).2 = .tu [.ag (tkc k' t' l'), iv e] -> Abs.look env 2 = some (.ptr 1 0) -> Abs.look env 3 = some (.t (iv e)) ->
   B2b Tryz.prog (G q) 1 [.cell 2 true 3, .tmp 3] (fun r0 H0 nx0 => r0 = PV.t (tokT 5 (D.take (symS D).1) l (symS D).2) /\ H0 = [(1, tkr k' t' l'), (0, scr s z l)] /\ nx0 = 2) .ret ⟨env, [(1, tkr k' t' l'), (0, scr s z l)], 2, 67⟩ := by
  intro k' t' l' e z env h h2 h3
  refine ⟨.inr rfl, _, [.t (.ag (tkc k' t' l')), .t (iv e)], Sub.refl _, ?_, ?_, rfl, rfl⟩
  ·simp [resM, h2, h3, A0s, agOf]
  ·rw [h]; rfl
 have good : ∀ n : Nat, symS D = (n, 0) -> 0 < n -> n <= D.length -> ∀ z, z = a + n -> IntKind.i64.wrap ((a : Int) + (n : Int)) = (z : Int) /\ IntKind.i64.wrap ((z : Int) - (n : Int)) = (a : Int) /\ A4a (.t (sv s)) (some (.t (iv (a : Int)))) (some (.t (iv (z : Int)))) = some (.t (sv (bs (D.take n)))) /\
   tokT 5 (D.take (symS D).1) l (symS D).2 = .tu [.ag (tkc 5 (D.take n) l), iv 0] := by
  intro n hn h0 hle z hz
  refine ⟨by rw [A4h (by omega) (by omega)]; omega, by rw [A4h (by omega) (by omega)]; omega, ?_, by rw [hn]; rfl⟩
  rw [A9w s a z (by omega) (by omega)]
  have e3 : s.extract a z = bs (D.take n) := by
   rw [<- A9u (s.extract a z), Lib.extract_data, hz, Nat.add_sub_cancel_left, <- hD]
  rw [e3]
 have pl : ∀ x y : UInt8, Lib.hasPrefix D [x, y] = true -> 2 <= D.length := by
  intro x y h
  have := (List.isPrefixOf_iff_prefix.1 h).length_le
  simpa using this
 have q11' : ∀ b, Lib.hasPrefix D [60, 33] = b -> A6o [.v (.string (s.extract a s.size)), .v (.string ⟨#[60, 33]⟩)] = some (bv b) := by intro b h; rw [q11, <- h]
 have q12' : ∀ b, Lib.hasPrefix D [33, 62] = b -> A6o [.v (.string (s.extract a s.size)), .v (.string ⟨#[33, 62]⟩)] = some (bv b) := by intro b h; rw [q12, <- h]
 cases p1 : Lib.hasPrefix D [60, 33] with
 | true =>
  have hS : symS D = (2, 0) := by simp [symS, p1]
  have g1 := q11' _ p1
  obtain ⟨z, hz⟩ : ∃ z, z = a + 2 := ⟨_, rfl⟩
  obtain ⟨w1, w2, w3, w4⟩ := good 2 hS (by omega) (pl _ _ p1) z hz
  have w1' : IntKind.i64.wrap ((a : Int) + 2) = (z : Int) := w1
  have w2' : IntKind.i64.wrap ((z : Int) - 2) = (a : Int) := w2
  have st := fun t => ts1 s a l z t
  have hzz : a + (symS D).1 = z := by rw [hS]; exact hz.symm
  rw [hzz]
  refine A1d.keep1 (cs := scc s z l) (H' := [(1, tkr 5 (D.take 2) l), (0, scr s z l)]) (nx' := 2) ?_ rfl
  refine A3d.callP rfl ?_
  refine A0c D9v ?_
  simp -implicitDefEqProofs [A2l, tl0, tl1, tl2, hsf, tbSy, g1, w1', st, w2', w3, -evalK_build, -evalQ_build, D9t, sto3]
  exact fin 5 (D.take 2) l 0 z _ w4 rfl rfl
 | false =>
 have g1 := q11' _ p1
 cases p2 : Lib.hasPrefix D [33, 62] with
 | true =>
  have hS : symS D = (2, 0) := by simp [symS, p2]
  have g2 := q12' _ p2
  obtain ⟨z, hz⟩ : ∃ z, z = a + 2 := ⟨_, rfl⟩
  obtain ⟨w1, w2, w3, w4⟩ := good 2 hS (by omega) (pl _ _ p2) z hz
  have w1' : IntKind.i64.wrap ((a : Int) + 2) = (z : Int) := w1
  have w2' : IntKind.i64.wrap ((z : Int) - 2) = (a : Int) := w2
  have st := fun t => ts1 s a l z t
  have hzz : a + (symS D).1 = z := by rw [hS]; exact hz.symm
  rw [hzz]
  refine A1d.keep1 (cs := scc s z l) (H' := [(1, tkr 5 (D.take 2) l), (0, scr s z l)]) (nx' := 2) ?_ rfl
  refine A3d.callP rfl ?_
  refine A0c D9v ?_
  simp -implicitDefEqProofs [A2l, tl0, tl1, tl2, hsf, tbSy, g1, g2, w1', st, w2', w3, -evalK_build, -evalQ_build, D9t, sto3]
  exact fin 5 (D.take 2) l 0 z _ w4 rfl rfl
 | false =>
 have g2 := q12' _ p2
 cases p3 : symC.contains c0 with
 | true =>
  have hS : symS D = (1, 0) := by
   unfold symS; rw [p1, p2, hD0]
   simp only [Bool.or_self, Bool.false_eq_true, if_false, List.head?_cons, Option.any_some, p3, if_true]
  rw [p3] at hneg
  have h3 : ¬ Lib.indexByte symC c0 < 0 := of_decide_eq_false hneg
  obtain ⟨z, hz⟩ : ∃ z, z = a + 1 := ⟨_, rfl⟩
  obtain ⟨w1, w2, w3, w4⟩ := good 1 hS (by omega) (by rw [hD0]; simp) z hz
  have w1' : IntKind.i64.wrap ((a : Int) + 1) = (z : Int) := w1
  have w2' : IntKind.i64.wrap ((z : Int) - 1) = (a : Int) := w2
  have st := fun t => ts1 s a l z t
  have hzz : a + (symS D).1 = z := by rw [hS]; exact hz.symm
  rw [hzz]
  refine A1d.keep1 (cs := scc s z l) (H' := [(1, tkr 5 (D.take 1) l), (0, scr s z l)]) (nx' := 2) ?_ rfl
  refine A3d.callP rfl ?_
  refine A0c D9v ?_
  simp -implicitDefEqProofs [A2l, tl0, tl1, tl2, hsf, tbSy, g1, g2, ix0, q2, h3, w1', st, w2', w3, -evalK_build, -evalQ_build, D9t, sto3]
  exact fin 5 (D.take 1) l 0 z _ w4 rfl rfl
 | false =>
  have hS : symS D = (0, 8) := by
   unfold symS; rw [p1, p2, hD0]
   simp only [Bool.or_self, Bool.false_eq_true, if_false, List.head?_cons, Option.any_some, p3]
  rw [p3] at hneg
  have h3 : Lib.indexByte symC c0 < 0 := of_decide_eq_true hneg
  have hzz : a + (symS D).1 = a := by rw [hS]; rfl
  have w4 : tokT 5 (D.take (symS D).1) l (symS D).2 = .tu [.ag (tkc 0 [] 0), iv 8] := by rw [hS]; rfl
  rw [hzz]
  refine A1d.keep1 (cs := scc s a l) (H' := [(1, tkr 0 [] 0), (0, scr s a l)]) (nx' := 2) ?_ rfl
  refine A3d.callP rfl ?_
  refine A0c D9v ?_
  simp -implicitDefEqProofs [A2l, tl0, tl1, tl2, hsf, tbSy, g1, g2, ix0, q2, h3, -evalK_build, bld0, sto3]
  exact fin 0 [] 0 8 a _ w4 rfl rfl
structure Tk where
 k : Int
 t : List UInt8
 e : Int
 n : Nat
def A2b (D : List UInt8) : Tk :=
 match D with
 | [] => ⟨0, [], 8, 0⟩
 | c :: _ =>
  if A3l c then ⟨1, D.take (runN false D), if 32 < runN false D then 7 else 0, runN false D⟩
  else if isUp c then ⟨2, D.take (runN true D), if 32 < runN true D then 7 else 0, runN true D⟩
  else if A1f c || decide (c.toNat = 45) then ⟨4, D.take (figN D), figE (D.take (figN D)), figN D⟩
  else if c.toNat = 34 then ⟨3, (D.drop 1).take (quoN (D.drop 1)).1, (quoN (D.drop 1)).2, 1 + (quoN (D.drop 1)).1 + (if (quoN (D.drop 1)).2 = 0 then 1 else 0)⟩
  else ⟨5, D.take (symS D).1, (symS D).2, (symS D).1⟩
theorem B4b (k : Int) (t : List UInt8) (l e : Int) : ∃ k' t' l', tokT k t l e = .tu [.ag (tkc k' t' l'), iv e] := by
 by_cases h : e = 0
 ·exact ⟨k, t, l, by rw [tokT, if_pos h, h]⟩
 ·exact ⟨0, [], 0, by rw [tokT, if_neg h]⟩
theorem C0a {f : Nat} {args : List T} {r : T} {s : ByteArray} {a l a' l' : Nat} (h : A1d Tryz.prog (G q) f (.ptr 0 0 :: args.map .t) [(0, scr s a l)] 1 (.t r) [(0, scr s a' l')] 1) (t : Row) :
  HOK Tryz.prog (G q) f (hOne (.ptr 0 0 :: args.map .t) [(1, t), (0, scr s a l)] 2 (.t r, [(1, t), (0, scr s a' l')], 2)) := by
 refine A2q ?_ ?_
 ·exact A1d.lift1 (cs := scc s a l) (args := args) (cs' := scc s a' l') h (b := 0) (NX := 2) (Hb := [(1, t), (0, scr s a l)]) rfl (by omega)
 ·intro _ b x hb
  simp only [Abs.look] at hb
  split at hb
  ·omega
  ·split at hb
   ·omega
   ·cases hb
noncomputable def tbNx : Tbl := [(91, B8m rLow), (93, B8m rUp), (94, B8m rDig)]
theorem okNx : A0z Tryz.prog (G q) tbNx := .cons (A8x C4d) (.cons (A8x C9h) (.cons (A8x B6z) .nil))
set_option maxHeartbeats 2000000 in
theorem D5i (s : ByteArray) (a l : Nat) (hs : s.size <= 65536) (ha : a < s.size) :
  A1d Tryz.prog (G q) 62 [.ptr 0 0] [(0, scr s a l)] 1
   (.t (tokT (A2b (s.data.toList.drop a)).k (A2b (s.data.toList.drop a)).t l (A2b (s.data.toList.drop a)).e))
   [(0, scr s (a + (A2b (s.data.toList.drop a)).n) l)] 1 := by
 have hlen : s.data.toList.length = s.size := rfl
 obtain ⟨D, hD⟩ : ∃ D, D = s.data.toList.drop a := ⟨_, rfl⟩
 obtain ⟨c, hc⟩ : ∃ c, s.data.toList[a]? = some c := ⟨_, List.getElem?_eq_getElem ha⟩
 have hD0 : D = c :: s.data.toList.drop (a + 1) := by
  have := List.drop_eq_getElem_cons (l := s.data.toList) (i := a) (by omega)
  rw [hD, this, (List.getElem?_eq_some_iff.1 hc).2]
 have hD1 : D.drop 1 = s.data.toList.drop (a + 1) := by rw [hD0]; rfl
 have ix := A1o s a c hc
 have ci := C1l c
 have c1 := A8y rLow (c.toNat : Int)
 have c2 := A8y rUp (c.toNat : Int)
 have c3 := A8y rDig (c.toNat : Int)
 rw [C1i] at c1
 rw [C6y] at c2
 rw [B2s] at c3
 have h1 := fun ps H nx o => A2d ps H nx o
 -- the end
 have fin : ∀ (r : T) (k : Int) (t : List UInt8) (z : Nat) (e k' : Int) (t' : List UInt8) (l' : Int) (env : List (Nat × PV)), r = tokT k t l e -> tokT k t l e = .tu [.ag (tkc k' t' l'), iv e] -> Abs.look env 2 = some (.ptr 1 0) -> Abs.look env 3 = some (.t (iv e)) ->
   B2b Tryz.prog (G q) 1 [.cell 2 true 3, .tmp 3] (fun r0 H0 nx0 => r0 = PV.t r /\ H0 = [(1, tkr k' t' l'), (0, scr s z l)] /\ nx0 = 2) .ret ⟨env, [(1, tkr k' t' l'), (0, scr s z l)], 2, 51⟩ := by
  intro r k t z e k' t' l' env hr h h2 h3
  refine ⟨.inr rfl, _, [.t (.ag (tkc k' t' l')), .t (iv e)], Sub.refl _, ?_, ?_, rfl, rfl⟩
  ·simp [resM, h2, h3, A0s, agOf]
  ·rw [hr, h]; rfl
 rw [<- hD]
 have hN : A2b D = A2b (c :: s.data.toList.drop (a + 1)) := by rw [hD0]
 rw [A2b] at hN
 rw [<- hD0] at hN
 cases t1 : A3l c with
 | true =>
  rw [t1] at c1
  rw [if_pos t1] at hN
  have hm := B9y (q := q) false s a l 1 hs (by omega)
  rw [<- hD] at hm
  rw [hN]
  simp only
  obtain ⟨z, hz⟩ : ∃ z, z = a + runN false D := ⟨_, rfl⟩
  rw [<- hz] at hm ⊢
  obtain ⟨k', t', l', heq⟩ := B4b 1 (D.take (runN false D)) l (if 32 < runN false D then 7 else 0)
  generalize (if 32 < runN false D then (7 : Int) else 0) = e at hm heq ⊢
  generalize D.take (runN false D) = t at hm heq ⊢
  have lm := C0a (args := [iv 1, fv 91]) hm tk0
  rw [heq] at lm
  have ctx := okNx.ctxH (.cons lm .nil) mixed
  refine A1d.keep1 (cs := scc s z l) (H' := [(1, tkr k' t' l'), (0, scr s z l)]) (nx' := 2) ?_ rfl
  refine A2j.callP rfl ?_
  refine A0c ctx ?_
  simp -implicitDefEqProofs [A1u, tl0, tl1, ix, ci, tbNx, c1, h1, extractV, sto3]
  exact fin _ _ _ z e k' t' l' _ rfl heq rfl rfl
 | false =>
 rw [t1] at c1
 rw [if_neg (by rw [t1]; simp)] at hN
 cases t2 : isUp c with
 | true =>
  rw [t2] at c2
  rw [if_pos t2] at hN
  have hm := B9y (q := q) true s a l 2 hs (by omega)
  rw [<- hD] at hm
  rw [hN]
  simp only
  obtain ⟨z, hz⟩ : ∃ z, z = a + runN true D := ⟨_, rfl⟩
  rw [<- hz] at hm ⊢
  obtain ⟨k', t', l', heq⟩ := B4b 2 (D.take (runN true D)) l (if 32 < runN true D then 7 else 0)
  generalize (if 32 < runN true D then (7 : Int) else 0) = e at hm heq ⊢
  generalize D.take (runN true D) = t at hm heq ⊢
  have lm := C0a (args := [iv 2, fv 93]) hm tk0
  rw [heq] at lm
  have ctx := okNx.ctxH (.cons lm .nil) mixed
  refine A1d.keep1 (cs := scc s z l) (H' := [(1, tkr k' t' l'), (0, scr s z l)]) (nx' := 2) ?_ rfl
  refine A2j.callP rfl ?_
  refine A0c ctx ?_
  simp -implicitDefEqProofs [A1u, tl0, tl1, ix, ci, tbNx, c1, c2, h1, extractV, sto3]
  exact fin _ _ _ z e k' t' l' _ rfl heq rfl rfl
 | false =>
 rw [t2] at c2
 rw [if_neg (by rw [t2]; simp)] at hN
 have b45 : ((c.toNat : Int) == 45) = decide (c.toNat = 45) := by
  by_cases h : c.toNat = 45
  ·rw [h]; rfl
  ·rw [decide_eq_false h, beq_eq_false_iff_ne]; omega
 have num : A1f c = true \/ (A1f c = false /\ decide (c.toNat = 45) = true) -> A2b D = ⟨4, D.take (figN D), figE (D.take (figN D)), figN D⟩ := by
  rintro (h | ⟨h, h'⟩)
  ·rw [hN, if_pos (by rw [h]; rfl)]
  ·rw [hN, if_pos (by rw [h, h']; rfl)]
 cases t3 : A1f c with
 | true =>
  rw [t3] at c3
  have hm := B4x (q := q) s a l hs ha
  rw [<- hD] at hm
  rw [num (.inl t3)]
  simp only
  obtain ⟨z, hz⟩ : ∃ z, z = a + figN D := ⟨_, rfl⟩
  rw [<- hz] at hm ⊢
  obtain ⟨k', t', l', heq⟩ := B4b 4 (D.take (figN D)) l (figE (D.take (figN D)))
  generalize figE (D.take (figN D)) = e at hm heq ⊢
  generalize D.take (figN D) = t at hm heq ⊢
  have lm := C0a (args := []) hm tk0
  rw [heq] at lm
  have ctx := okNx.ctxH (.cons lm .nil) mixed
  refine A1d.keep1 (cs := scc s z l) (H' := [(1, tkr k' t' l'), (0, scr s z l)]) (nx' := 2) ?_ rfl
  refine A2j.callP rfl ?_
  refine A0c ctx ?_
  simp -implicitDefEqProofs [A1u, tl0, tl1, ix, ci, tbNx, c1, c2, c3, h1, extractV, sto3]
  exact fin _ _ _ z e k' t' l' _ rfl heq rfl rfl
 | false =>
 rw [t3] at c3
 cases t4 : decide (c.toNat = 45) with
 | true =>
  rw [t4] at b45
  have hm := B4x (q := q) s a l hs ha
  rw [<- hD] at hm
  rw [num (.inr ⟨t3, t4⟩)]
  simp only
  obtain ⟨z, hz⟩ : ∃ z, z = a + figN D := ⟨_, rfl⟩
  rw [<- hz] at hm ⊢
  obtain ⟨k', t', l', heq⟩ := B4b 4 (D.take (figN D)) l (figE (D.take (figN D)))
  generalize figE (D.take (figN D)) = e at hm heq ⊢
  generalize D.take (figN D) = t at hm heq ⊢
  have lm := C0a (args := []) hm tk0
  rw [heq] at lm
  have ctx := okNx.ctxH (.cons lm .nil) mixed
  refine A1d.keep1 (cs := scc s z l) (H' := [(1, tkr k' t' l'), (0, scr s z l)]) (nx' := 2) ?_ rfl
  refine A2j.callP rfl ?_
  refine A0c ctx ?_
  simp -implicitDefEqProofs [A1u, tl0, tl1, ix, ci, tbNx, c1, c2, c3, b45, h1, extractV, sto3]
  exact fin _ _ _ z e k' t' l' _ rfl heq rfl rfl
 | false =>
 rw [t4] at b45
 rw [t3, t4, if_neg (by simp)] at hN
 by_cases h34 : c.toNat = 34
 ·have b34 : ((c.toNat : Int) == 34) = true := by rw [h34]; rfl
  rw [if_pos h34] at hN
  have hm := C4i (q := q) s a l hs ha
  rw [<- hD1] at hm
  rw [hN]
  simp only
  obtain ⟨z, hz⟩ : ∃ z, z = a + (1 + (quoN (D.drop 1)).1 + (if (quoN (D.drop 1)).2 = 0 then 1 else 0)) := ⟨_, rfl⟩
  rw [show a + 1 + (quoN (D.drop 1)).1 + (if (quoN (D.drop 1)).2 = 0 then 1 else 0) = z by omega] at hm
  rw [<- hz]
  obtain ⟨k', t', l', heq⟩ := B4b 3 ((D.drop 1).take (quoN (D.drop 1)).1) l (quoN (D.drop 1)).2
  generalize (D.drop 1).take (quoN (D.drop 1)).1 = t at hm heq ⊢
  clear hz
  generalize (quoN (D.drop 1)).2 = e at hm heq ⊢
  have lm := C0a (args := []) hm tk0
  rw [heq] at lm
  have ctx := okNx.ctxH (.cons lm .nil) mixed
  refine A1d.keep1 (cs := scc s z l) (H' := [(1, tkr k' t' l'), (0, scr s z l)]) (nx' := 2) ?_ rfl
  refine A2j.callP rfl ?_
  refine A0c ctx ?_
  simp -implicitDefEqProofs [A1u, tl0, tl1, ix, ci, tbNx, c1, c2, c3, b45, b34, h1, extractV, sto3]
  exact fin _ _ _ z e k' t' l' _ rfl heq rfl rfl
 ·have b34 : ((c.toNat : Int) == 34) = false := by rw [beq_eq_false_iff_ne]; omega
  rw [if_neg h34] at hN
  have hm := C4j (q := q) s a l hs ha
  rw [<- hD] at hm
  rw [hN]
  simp only
  obtain ⟨z, hz⟩ : ∃ z, z = a + (symS D).1 := ⟨_, rfl⟩
  rw [<- hz] at hm ⊢
  obtain ⟨k', t', l', heq⟩ := B4b 5 (D.take (symS D).1) l (symS D).2
  generalize (symS D).2 = e at hm heq ⊢
  generalize D.take (symS D).1 = t at hm heq ⊢
  have lm := C0a (args := []) hm tk0
  rw [heq] at lm
  have ctx := okNx.ctxH (.cons lm .nil) mixed
  refine A1d.keep1 (cs := scc s z l) (H' := [(1, tkr k' t' l'), (0, scr s z l)]) (nx' := 2) ?_ rfl
  refine A2j.callP rfl ?_
  refine A0c ctx ?_
  simp -implicitDefEqProofs [A1u, tl0, tl1, ix, ci, tbNx, c1, c2, c3, b45, b34, h1, extractV, sto3]
  exact fin _ _ _ z e k' t' l' _ rfl heq rfl rfl
end Go.Proofs.YtjkkgbdoeaihmaaGreatDoor
