/-
 Auxiliary facts. No statement of the program stands here.
-/
import Derived.Test.YtjkkgbdoeaihmaaGreatDoorUAQ20
import Derived.Lib.AtoiAllCases
namespace Go.Proofs.YtjkkgbdoeaihmaaGreatDoor
set_option linter.unusedSimpArgs false
set_option linter.unusedVariables false
open Go Go.Abs
variable {q : Gl}
def decV (acc : Nat) (l : List UInt8) : Nat := l.foldl (fun a c => a * 10 + (c.toNat - 48)) acc
theorem decV_ge : ∀ (l : List UInt8) (acc : Nat), acc ≤ decV acc l
 | [], acc => Nat.le_refl _
 | c :: r, acc => by
  have := decV_ge r (acc * 10 + (c.toNat - 48))
  show acc ≤ decV (acc * 10 + (c.toNat - 48)) r
  omega
theorem parse_dec : ∀ (l : List UInt8) (acc : Nat), (∀ c ∈ l, isDig c = true) → acc < 18446744073709551616 → Lib.parseUint10 acc l = if decV acc l < 18446744073709551616 then .ok (decV acc l) else .range
 | [], acc, _, ha => by simp [Lib.parseUint10, decV, ha]
 | c :: r, acc, hd, ha => by
  have hc := hd c (by simp)
  simp only [isDig, Bool.and_eq_true, decide_eq_true_eq] at hc
  have e : decV acc (c :: r) = decV (acc * 10 + (c.toNat - 48)) r := rfl
  have hge := decV_ge r (acc * 10 + (c.toNat - 48))
  simp only [Lib.parseUint10, if_pos hc]
  by_cases h1 : 1844674407370955162 ≤ acc
  ·rw [if_pos h1, if_neg (by rw [e]; omega)]
  ·rw [if_neg h1]
   by_cases h2 : 18446744073709551616 ≤ acc * 10 + (c.toNat - 48)
   ·rw [if_pos h2, if_neg (by rw [e]; omega)]
   ·rw [if_neg h2, parse_dec r _ (fun x hx => hd x (by simp [hx])) (by omega), e]
def numS (l : List UInt8) : Int × Int :=
 let neg := l.head? == some 45
 let d := if neg then l.tail else l
 if d.isEmpty || !(d.all isDig) || (d.head? == some 48 && l != [48]) then (0, 8)
 else if neg then (if decV 0 d ≤ 9223372036854775808 then (-(decV 0 d : Int), 0) else (0, 2))
 else (if decV 0 d < 9223372036854775808 then ((decV 0 d : Int), 0) else (0, 2))
theorem trimS_nil (l cs : List UInt8) : (Lib.trimS l cs).isEmpty = l.all (cs.contains ·) := by
 have dw : ∀ (p : UInt8 → Bool) (l : List UInt8), l.dropWhile p = [] ↔ ∀ x ∈ l, p x = true := by
  intro p l
  induction l with
  | nil => simp
  | cons x r ih =>
   by_cases h : p x = true
   ·simp [List.dropWhile_cons, h, ih]
   ·simp [List.dropWhile_cons, h]
 have h1 : Lib.trimS l cs = [] ↔ ∀ x ∈ l, cs.contains x = true := by
  unfold Lib.trimS Lib.trimLeftS Lib.trimRightS
  rw [dw]
  constructor
  ·intro h x hx
   cases hc : cs.contains x with
   | true => rfl
   | false =>
    -- x is kept from the right
    exfalso
    have key : ∀ (m : List UInt8), x ∈ m → x ∈ m.dropWhile (cs.contains ·) := by
     intro m
     induction m with
     | nil => intro h; cases h
     | cons y r ih =>
      intro hm
      rw [List.dropWhile_cons]
      split
      ·rename_i hy
       rcases List.mem_cons.1 hm with e | e
       ·subst e; rw [hc] at hy; cases hy
       ·exact ih e
      ·exact hm
    have := h x (by simpa using key l.reverse (by simpa using hx))
    rw [hc] at this
    cases this
  ·intro h x hx
   have : x ∈ l.reverse.dropWhile (cs.contains ·) := by simpa using hx
   exact h x (by simpa using (List.dropWhile_sublist _).mem this)
 cases hl : l.all (cs.contains ·) with
 | true => rw [h1.2 (fun x hx => List.all_eq_true.1 hl x hx)]; rfl
 | false =>
  cases ht : Lib.trimS l cs with
  | nil =>
   rw [List.all_eq_true.2 (h1.1 ht)] at hl
   cases hl
  | cons a r => rfl
def digs : List UInt8 := [48, 49, 50, 51, 52, 53, 54, 55, 56, 57]
theorem digs_isDig (c : UInt8) : digs.contains c = isDig c := by
 have : ∀ n : Fin 256, digs.contains (UInt8.ofNat n.val) = isDig (UInt8.ofNat n.val) := by decide +kernel
 have := this ⟨c.toNat, c.toNat_lt⟩
 simpa using this
theorem stl (s : ByteArray) : s.toList = s.data.toList := ByteArray.toList_eq s
theorem stl_mk (l : List UInt8) : (⟨l.toArray⟩ : ByteArray).toList = l := by rw [stl]
theorem beq_nil (l : List UInt8) : (l == []) = l.isEmpty := by cases l <;> rfl
theorem trimP (l : List UInt8) : Lib.trimPrefix l [45] = if l.head? == some 45 then l.tail else l := by
 cases l with
 | nil => rfl
 | cons c r =>
  by_cases h : c = 45
  ·subst h; simp [Lib.trimPrefix, Lib.hasPrefix, List.isPrefixOf]
  ·have : ¬ (45 : UInt8) = c := fun e => h e.symm
   simp [Lib.trimPrefix, Lib.hasPrefix, List.isPrefixOf, h, this]
theorem atoi_neg (d : List UInt8) (h0 : d ≠ []) (hd : ∀ c ∈ d, isDig c = true) : Lib.atoiAll (45 :: d) = if decV 0 d ≤ 9223372036854775808 then .ok (-(decV 0 d : Int)) else .range := by
 rw [Lib.atoiAll_minus, Lib.parseMag, if_neg h0, parse_dec d 0 hd (by omega)]
 by_cases h1 : decV 0 d < 18446744073709551616
 ·rw [if_pos h1]
  unfold Lib.signed
  by_cases h2 : decV 0 d ≤ 9223372036854775808
  ·simp only [if_pos h2, if_neg (by omega : ¬ 9223372036854775808 < decV 0 d)]
  ·simp only [if_neg h2, if_pos (by omega : 9223372036854775808 < decV 0 d)]
 ·rw [if_neg h1, if_neg (by omega)]
  rfl
theorem atoi_pos (c : UInt8) (r : List UInt8) (hd : ∀ x ∈ c :: r, isDig x = true) : Lib.atoiAll (c :: r) = if decV 0 (c :: r) < 9223372036854775808 then .ok (decV 0 (c :: r) : Int) else .range := by
 have hc := hd c (by simp)
 simp only [isDig, Bool.and_eq_true, decide_eq_true_eq] at hc
 rw [Lib.atoiAll_plain c r (by omega) (by omega), Lib.parseMag, if_neg (by simp), parse_dec _ 0 hd (by omega)]
 by_cases h1 : decV 0 (c :: r) < 18446744073709551616
 ·rw [if_pos h1]
  unfold Lib.signless
  by_cases h2 : decV 0 (c :: r) < 9223372036854775808
  ·simp only [if_pos h2, if_neg (by omega : ¬ 9223372036854775808 ≤ decV 0 (c :: r))]
  ·simp only [if_neg h2, if_pos (by omega : 9223372036854775808 ≤ decV 0 (c :: r))]
 ·rw [if_neg h1, if_neg (by omega)]
  rfl
@[simp] theorem neq_nil {Φ : Oracle} {H : Heap} {nx : Nat} (isB : Bool) : evalK Φ H nx (.bin isB .neq (some .ifc)) [.t (.v .nilIface), .t (.v .nilIface)] = some (.t (.v (.bool false)), H, nx) := rfl
@[simp] theorem neq_err {Φ : Oracle} {H : Heap} {nx : Nat} (isB : Bool) (t : Nat) (x : T) : evalK Φ H nx (.bin isB .neq (some .ifc)) [.t (.ic t x), .t (.v .nilIface)] = some (.t (.v (.bool true)), H, nx) := rfl
noncomputable def tbNum : Tbl := [(130, gTrimPrefix), (131, gTrim), (132, gAtoi)]
theorem ctxNum : Ctx Tryz.prog (G q) (orc tbNum) := (TblOK.cons hTrimPrefix (.cons hTrim (.cons hAtoi .nil))).ctx mixed
abbrev numT (l : List UInt8) : T := .tu [iv (numS l).1, iv (numS l).2]
theorem number_call (s : ByteArray) (hs : s.size ≤ 281474976710656) : CallT Tryz.prog (G q) 119 [sv s] (· = numT s.data.toList) := by
 refine k_text_Number.runs ctxNum rfl ?_
 obtain ⟨l, hl⟩ : ∃ l, l = s.data.toList := ⟨_, rfl⟩
 have hlen : l.length = s.size := by rw [hl]; rfl
 obtain ⟨d, hd⟩ : ∃ d, d = Lib.trimPrefix l [45] := ⟨_, rfl⟩
 have hd2 := hd
 rw [trimP] at hd2
 have dl : d.length ≤ l.length := by
  rw [hd2]; split
  ·simp
  ·exact Nat.le_refl _
 have q1 : gTrimPrefix [.v (.string s), .v (.string ⟨#[45]⟩)] = some (sv (bs d)) := by
  rw [gTrimPrefix, g2_eq (τ := tStr) (σ := tStr) (x := s) (y := ⟨#[45]⟩) rfl rfl, hd, hl]
 have q2 : gTrim [.v (.string (bs d)), .v (.string ⟨#[48, 49, 50, 51, 52, 53, 54, 55, 56, 57]⟩)] = some (sv (bs (Lib.trimS d digs))) := by
  rw [gTrim, g2_eq (τ := tStr) (σ := tStr) (x := bs d) (y := ⟨#[48, 49, 50, 51, 52, 53, 54, 55, 56, 57]⟩) rfl rfl, if_pos ⟨by show d.toArray.size ≤ _; simp; omega, by decide, by decide⟩]
  rfl
 have tn := trimS_nil d digs
 rw [show (fun x => digs.contains x) = isDig from funext digs_isDig] at tn
 rw [← hl]
 have hnum : numS l = if d.isEmpty || !(d.all isDig) || (d.head? == some 48 && l != [48]) then (0, 8) else if l.head? == some 45 then (if decV 0 d ≤ 9223372036854775808 then (-(decV 0 d : Int), 0) else (0, 2)) else (if decV 0 d < 9223372036854775808 then ((decV 0 d : Int), 0) else (0, 2)) := by
  rw [hd2]; rfl
 cases hde : d.isEmpty with
 | true =>
  rw [hde] at hnum
  simp -implicitDefEqProofs [M_text_Number, tbNum, q1, stl_mk, beq_nil, hde, numT, hnum]
 | false =>
 cases hda : d.all isDig with
 | false =>
  rw [hde, hda] at hnum
  rw [hda] at tn
  simp -implicitDefEqProofs [M_text_Number, tbNum, q1, stl_mk, beq_nil, hde, q2, tn, numT, hnum]
 | true =>
 rw [hde, hda] at hnum
 rw [hda] at tn
 obtain ⟨c, r, hcr⟩ : ∃ c r, d = c :: r := by
  cases d with
  | nil => cases hde
  | cons c r => exact ⟨c, r, rfl⟩
 have hall : ∀ x ∈ d, isDig x = true := List.all_eq_true.1 hda
 have ix := index_str (bs d) 0 c (by rw [hcr]; rfl)
 simp only [Int.natCast_zero] at ix
 have hh : d.head? = some c := by rw [hcr]; rfl
 have s0 : (s.toList == [48]) = (l == [48]) := by rw [stl, hl]
 have e48 : ((c.toNat : Int) == 48) = (c == 48) := by
  by_cases h : c = 48
  ·subst h; rfl
  ·have : ¬ c.toNat = 48 := fun e => h (UInt8.toNat_inj.1 e)
   rw [beq_eq_false_iff_ne.2 h, beq_eq_false_iff_ne]; omega
 have bad : (c == 48 && l != [48]) = true → numS l = (0, 8) := by
  intro h
  rw [hnum, hh]
  simp only [Option.some_beq_some, h, Bool.or_true, if_true]
 have good : (c == 48 && l != [48]) = false → numS l = if l.head? == some 45 then (if decV 0 d ≤ 9223372036854775808 then (-(decV 0 d : Int), 0) else (0, 2)) else (if decV 0 d < 9223372036854775808 then ((decV 0 d : Int), 0) else (0, 2)) := by
  intro h
  rw [hnum, hh]
  simp only [Option.some_beq_some, h, Bool.not_true, Bool.or_false, Bool.false_eq_true, if_false]
 -- what Atoi answers
 have atoi : (c == 48 && l != [48]) = false → (∃ v, numS l = (v, 0) ∧ gAtoi [.v (.string s)] = some (.tu [iv v, .v .nilIface])) ∨ (numS l = (0, 2) ∧ ∃ v, gAtoi [.v (.string s)] = some (.tu [iv v, .ic 163 (.pt [])])) := by
  intro h
  have g := good h
  have ga : gAtoi [.v (.string s)] = _ := g1_eq (τ := tStr) (x := s) rfl
  rw [if_pos hs, ← hl] at ga
  cases hneg : (l.head? == some 45) with
  | true =>
   rw [hneg] at g hd2
   simp only [if_true] at g hd2
   have el : l = 45 :: d := by
    cases l with
    | nil => simp at hneg
    | cons x t => simp at hneg; subst hneg; rw [hd2]; rfl
   have at' := atoi_neg d (by rw [hcr]; simp) hall
   rw [← el] at at'
   by_cases h2 : decV 0 d ≤ 9223372036854775808
   ·rw [if_pos h2] at g at'
    left
    refine ⟨_, g, ?_⟩
    rw [ga, at']
   ·rw [if_neg h2] at g at'
    right
    refine ⟨g, Lib.atoiSat l, ?_⟩
    rw [ga, at']
  | false =>
   rw [hneg] at g hd2
   simp only [Bool.false_eq_true, if_false] at g hd2
   have at' := atoi_pos c r (by rw [← hcr]; exact hall)
   rw [← hcr] at at'
   rw [← hd2] at ga
   by_cases h2 : decV 0 d < 9223372036854775808
   ·rw [if_pos h2] at g at'
    left
    refine ⟨_, g, ?_⟩
    rw [ga, at']
   ·rw [if_neg h2] at g at'
    right
    refine ⟨g, Lib.atoiSat d, ?_⟩
    rw [ga, at']
 have fin : (c == 48 && l != [48]) = false → runsM (orc tbNum) M_text_Number (startM 33 [sv s]) (EndsM [.tmp 2, .tmp 3] (· = numT l)) := by
  intro h
  rcases atoi h with ⟨v, h1, h2⟩ | ⟨h1, v, h2⟩
  ·cases h48 : (c == 48) with
   | true =>
    rw [h48] at h
    have h3 : (l == [48]) = true := by simpa using h
    simp -implicitDefEqProofs [M_text_Number, tbNum, q1, stl_mk, beq_nil, hde, q2, tn, ix, e48, h48, s0, h3, h2, extractV, numT, h1]
   | false => simp -implicitDefEqProofs [M_text_Number, tbNum, q1, stl_mk, beq_nil, hde, q2, tn, ix, e48, h48, h2, extractV, numT, h1]
  ·cases h48 : (c == 48) with
   | true =>
    rw [h48] at h
    have h3 : (l == [48]) = true := by simpa using h
    simp -implicitDefEqProofs [M_text_Number, tbNum, q1, stl_mk, beq_nil, hde, q2, tn, ix, e48, h48, s0, h3, h2, extractV, numT, h1]
   | false => simp -implicitDefEqProofs [M_text_Number, tbNum, q1, stl_mk, beq_nil, hde, q2, tn, ix, e48, h48, h2, extractV, numT, h1]
 cases hb : (c == 48 && l != [48]) with
 | false => exact fin hb
 | true =>
  have h48 : (c == 48) = true := by simp only [Bool.and_eq_true] at hb; exact hb.1
  have h3 : (l == [48]) = false := by simp only [Bool.and_eq_true] at hb; simpa using hb.2
  simp -implicitDefEqProofs [M_text_Number, tbNum, q1, stl_mk, beq_nil, hde, q2, tn, ix, e48, h48, s0, h3, numT, bad hb]
open Go Go.Abs Go.RowKit
def IsD (d : List UInt8) (D : ByteArray) : Prop := D.data.toList = d
end Go.Proofs.YtjkkgbdoeaihmaaGreatDoor
