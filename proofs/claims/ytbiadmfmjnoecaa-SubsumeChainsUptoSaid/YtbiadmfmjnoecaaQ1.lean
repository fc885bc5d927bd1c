/-
  The document's names of types and features; lists of strings; declarations: what their functions return.
  Lists of strings; declarations: what their functions return.
  Declarations: what their functions return (the searches are printed by gen3.py).
-/
import Derived.Test.YtbiadmfmjnoecaaU3
import Derived.Test.YtbiadmfmjnoecaaM2
import Derived.Test.YtbiadmfmjnoecaaB3
namespace Go.Proofs.Ytbiadmfmjnoecaa
set_option linter.unusedSimpArgs false
set_option linter.unusedVariables false
open Go Go.Abs
abbrev cv (c : UInt8) : T := .v (.int .u8 (c.toNat : Int))
def isDig (c : UInt8) : Bool := decide (48 ≤ c.toNat) && decide (c.toNat ≤ 57)
def isUp (c : UInt8) : Bool := decide (65 ≤ c.toNat) && decide (c.toNat ≤ 90)
def isLow (c : UInt8) : Bool := decide (97 ≤ c.toNat) && decide (c.toNat ≤ 122)
def tChr : Ty UInt8 := ⟨fun t c => t = cv c, fun t a b h h' => by
 rw [h] at h'
 injection h' with h'; injection h' with _ h'
 exact UInt8.toNat_inj.1 (by omega)⟩
theorem digit_call (c : UInt8) : CallT Try.prog G 143 [cv c] (· = bv (isDig c)) := by
 refine k_r01_digit.runs ctx0 rfl ?_
 by_cases h1 : 48 ≤ c.toNat
 ·have h1' : (48 : Int) ≤ (c.toNat : Int) := by omega
  have e : decide ((c.toNat : Int) ≤ 57) = decide (c.toNat ≤ 57) := by congr 1; apply propext; omega
  simp -implicitDefEqProofs [M_r01_digit, isDig, h1, h1', e]
 ·have h1' : ¬ (48 : Int) ≤ (c.toNat : Int) := by omega
  simp -implicitDefEqProofs [M_r01_digit, isDig, h1, h1']
theorem upper_call (c : UInt8) : CallT Try.prog G 145 [cv c] (· = bv (isUp c)) := by
 refine k_r01_upper.runs ctx0 rfl ?_
 by_cases h1 : 65 ≤ c.toNat
 ·have h1' : (65 : Int) ≤ (c.toNat : Int) := by omega
  have e : decide ((c.toNat : Int) ≤ 90) = decide (c.toNat ≤ 90) := by congr 1; apply propext; omega
  simp -implicitDefEqProofs [M_r01_upper, isUp, h1, h1', e]
 ·have h1' : ¬ (65 : Int) ≤ (c.toNat : Int) := by omega
  simp -implicitDefEqProofs [M_r01_upper, isUp, h1, h1']
theorem lower_call (c : UInt8) : CallT Try.prog G 146 [cv c] (· = bv (isLow c)) := by
 refine k_r01_lower.runs ctx0 rfl ?_
 by_cases h1 : 97 ≤ c.toNat
 ·have h1' : (97 : Int) ≤ (c.toNat : Int) := by omega
  have e : decide ((c.toNat : Int) ≤ 122) = decide (c.toNat ≤ 122) := by congr 1; apply propext; omega
  simp -implicitDefEqProofs [M_r01_lower, isLow, h1, h1', e]
 ·have h1' : ¬ (97 : Int) ≤ (c.toNat : Int) := by omega
  simp -implicitDefEqProofs [M_r01_lower, isLow, h1, h1']
noncomputable def gChr (f : UInt8 → Bool) : List T → Option T := g1 tChr fun c => some (bv (f c))
theorem gChr_ok {F : Nat} {f : UInt8 → Bool} (h : ∀ c, CallT Try.prog G F [cv c] (· = bv (f c))) : GOK Try.prog G F (gChr f) :=
 g1_ok fun a x r ha hr => by
  have e : a = cv x := ha
  injection hr with hr; subst hr; subst e
  exact h x
theorem gChr_eq (f : UInt8 → Bool) (c : UInt8) : gChr f [cv c] = some (bv (f c)) := g1_eq (τ := tChr) rfl
noncomputable def tbc : Tbl := [(143, gChr isDig), (145, gChr isUp), (146, gChr isLow)]
theorem ctxc : Ctx Try.prog G (orc tbc) := (TblOK.cons (gChr_ok digit_call) (.cons (gChr_ok upper_call) (.cons (gChr_ok lower_call) .nil))).ctx mixed
def isPart (big : Bool) (c : UInt8) : Bool := isDig c || decide (c.toNat = 45) || (big && isUp c) || (!big && isLow c)
theorem part_call (c : UInt8) (big : Bool) : CallT Try.prog G 144 [cv c, bv big] (· = bv (isPart big c)) := by
 refine k_r01_part.runs ctxc rfl ?_
 have e45 : ((c.toNat : Int) == 45) = decide (c.toNat = 45) := by
  by_cases h : c.toNat = 45
  ·rw [h]; rfl
  ·rw [decide_eq_false h, beq_eq_false_iff_ne]; omega
 have q1 := gChr_eq isDig c
 have q2 := gChr_eq isUp c
 have q3 := gChr_eq isLow c
 cases hd : isDig c <;> cases h4 : decide (c.toNat = 45) <;> cases big <;> cases hu : isUp c <;> cases hl : isLow c <;>
  simp -implicitDefEqProofs [M_r01_part, tbc, q1, q2, q3, e45, hd, h4, hu, hl, isPart]
noncomputable def tbp : Tbl := [(143, gChr isDig), (144, g2 tChr tBool fun c b => some (bv (isPart b c)))]
theorem ctxp : Ctx Try.prog G (orc tbp) := (TblOK.cons (gChr_ok digit_call) (.cons (g2_ok fun a b x y r ha hb hr => by
 have e1 : a = cv x := ha
 have e2 : b = bv y := hb
 injection hr with hr; subst hr; subst e1; subst e2
 exact part_call x y) .nil)).ctx mixed
def isNamed (big : Bool) (s : ByteArray) : Bool :=
 match s.data.toList with
 | [] => false
 | c :: r => decide (s.size ≤ 32) && !isDig c && !decide (c.toNat = 45) && (c :: r).all (isPart big)
def S142 (s : ByteArray) (big : Bool) (j : Nat) : AState := ⟨[(5, .t (iv (j : Int))), (1, .t (bv big)), (0, .t (sv s))], [], 0, 36⟩
theorem index_str (s : ByteArray) (j : Nat) (c : UInt8) (h : s.data.toList[j]? = some c) : indexM (.t (sv s)) (.t (iv (j : Int))) = some (.t (cv c)) := by
 have hj : j < s.data.size := by
  have := (List.getElem?_eq_some_iff.1 h).1
  simpa using this
 have : s[j]? = some c := by
  have h2 : s.data[j]? = some c := by simpa using h
  have h3 : j < s.size := hj
  rw [getElem?_pos s j h3]
  rw [getElem?_pos s.data j hj] at h2
  exact h2
 simp [indexM, this]
theorem named_call (s : ByteArray) (big : Bool) (hs : s.size ≤ 9223372036854775807) : CallT Try.prog G 142 [sv s, bv big] (· = bv (isNamed big s)) := by
 refine k_r01_named.call rfl ?_
 unfold M_r01_named
 refine mc_seq_runs ctxp ?_
 simp -implicitDefEqProofs
 have hlen : s.data.toList.length = s.size := rfl
 cases hl : s.data.toList with
 | nil =>
  rw [hl] at hlen
  have h0 : (s.size : Int) < 1 := by simp at hlen; omega
  refine mc_runs ctxp ?_
  simp -implicitDefEqProofs [h0, isNamed, hl]
 | cons c r =>
  rw [hl] at hlen
  simp only [List.length_cons] at hlen
  have h0 : ¬ (s.size : Int) < 1 := by omega
  have hx0 : s.data.toList[0]? = some c := by rw [hl]; rfl
  have i0 := index_str s 0 c hx0
  simp only [Int.natCast_zero] at i0
  have qd := gChr_eq isDig c
  by_cases h1 : 32 < s.size
  ·have h1' : (32 : Int) < (s.size : Int) := by omega
   have hz : decide (s.size ≤ 32) = false := decide_eq_false (by omega)
   refine mc_runs ctxp ?_
   simp -implicitDefEqProofs [h0, h1, h1', isNamed, hl, hz]
  ·have h1' : ¬ (32 : Int) < (s.size : Int) := by omega
   have hz : decide (s.size ≤ 32) = true := decide_eq_true (by omega)
   cases hd : isDig c with
   | true =>
    refine mc_runs ctxp ?_
    simp -implicitDefEqProofs [h0, h1, h1', i0, tbp, qd, hd, isNamed, hl]
   | false =>
    by_cases h4 : c.toNat = 45
    ·have h4' : ((c.toNat : Int) == 45) = true := by rw [h4]; rfl
     refine mc_runs ctxp ?_
     simp -implicitDefEqProofs [h0, h1, h1', i0, tbp, qd, hd, h4', isNamed, hl, h4]
    ·have h4' : ((c.toNat : Int) == 45) = false := by rw [beq_eq_false_iff_ne]; omega
     refine mc_seq_runs ctxp ?_
     simp -implicitDefEqProofs [h0, h1, h1', i0, tbp, qd, hd, h4']
     obtain ⟨n, hn⟩ : ∃ n, n = s.data.toList.findIdx fun c => !isPart big c := ⟨_, rfl⟩
     have hle : n ≤ s.size := by rw [hn]; exact findIdx_le _ _
     have hres : isNamed big s = decide (n = s.size) := by
      have : isNamed big s = (s.data.toList).all (isPart big) := by
       unfold isNamed
       rw [hl]
       simp only [hz, hd, h4, decide_false, Bool.not_false, Bool.true_and]
      rw [this]
      by_cases e : n = s.size
      ·rw [decide_eq_true e, List.all_eq_true]
       intro x hx
       have := findIdx_none (p := fun c => !isPart big c) (l := s.data.toList) (by rw [← hn, e]; rfl) x hx
       simpa using this
      ·rw [decide_eq_false e, List.all_eq_false]
       obtain ⟨x, hx, hp⟩ := findIdx_hit (p := fun c => !isPart big c) (l := s.data.toList) (by rw [← hn]; show n < s.size; omega)
       exact ⟨x, List.mem_of_getElem? hx, by simpa using hp⟩
     rw [hres]
     refine mc_cut (fun _ : Unit => S142 s big s.size) (fun _ => n = s.size) (fun _ => rfl) ?_ ?_
     ·refine mc_seq_runs ctxp ?_
      simp -implicitDefEqProofs
      refine mc_block ?_
      refine mc_for (S142 s big) n (fun _ => rfl) ?_ rfl ?_ ?_
      ·refine sub_forget rfl rfl ?_ ?_ <;> simp -implicitDefEqProofs [S142]
      ·intro j hj
       refine mc_runs ctxp ?_
       have hjs : j < s.size := by omega
       obtain ⟨x, hx⟩ : ∃ x, s.data.toList[j]? = some x := ⟨_, List.getElem?_eq_getElem hjs⟩
       have hp := findIdx_not (p := fun c => !isPart big c) (by rw [← hn]; exact hj) hx
       have hp' : isPart big x = true := by simpa using hp
       have e1 : IntKind.i64.wrap ((j : Int) + 1) = ((j + 1 : Nat) : Int) := wrap_nat (by omega) (by omega)
       have q := g2_eq (τ := tChr) (σ := tBool) (f := fun c b => some (bv (isPart b c))) (a := cv x) (b := bv big) rfl rfl
       simp -implicitDefEqProofs [S142, hjs, index_str s j x hx, tbp, q, hp', e1]
       refine sub_forget rfl rfl ?_ ?_ <;> simp -implicitDefEqProofs
      ·refine mc_runs ctxp ?_
       by_cases e : n = s.size
       ·subst e
        simp -implicitDefEqProofs [S142]
        exact Next.mk () trivial (sub_forget rfl rfl (by simp -implicitDefEqProofs) (by simp -implicitDefEqProofs))
       ·have hjs : n < s.size := by omega
        obtain ⟨x, hx, hp⟩ := findIdx_hit (p := fun c => !isPart big c) (l := s.data.toList) (by rw [← hn]; exact hjs)
        rw [← hn] at hx
        have hp' : isPart big x = false := by simpa using hp
        have q := g2_eq (τ := tChr) (σ := tBool) (f := fun c b => some (bv (isPart b c))) (a := cv x) (b := bv big) rfl rfl
        simp -implicitDefEqProofs [S142, hjs, index_str s n x hx, tbp, q, hp', e]
     ·rintro _ e
      refine mc_runs ctxp ?_
      simp -implicitDefEqProofs [S142, e]
noncomputable def tbn : Tbl := [(142, g2 tStr tBool fun s b => if s.size ≤ 9223372036854775807 then some (bv (isNamed b s)) else none)]
theorem ctxn : Ctx Try.prog G (orc tbn) := (TblOK.cons (g2_ok fun a b x y r ha hb hr => by
 have e1 : a = sv x := ha
 have e2 : b = bv y := hb
 subst e1; subst e2
 split at hr
 ·rename_i h
  injection hr with hr; subst hr
  exact named_call x y h
 ·cases hr) .nil).ctx mixed
theorem name_call (s : ByteArray) (hs : s.size ≤ 9223372036854775807) : CallT Try.prog G 136 [sv s] (· = bv (isNamed false s)) := by
 refine k_r01_Name.runs ctxn rfl ?_
 have q := g2_eq (τ := tStr) (σ := tBool) (f := fun s b => if s.size ≤ 9223372036854775807 then some (bv (isNamed b s)) else none) (a := sv s) (b := bv false) rfl rfl
 rw [if_pos hs] at q
 simp -implicitDefEqProofs [M_r01_Name, tbn, q]
theorem feature_call (s : ByteArray) (hs : s.size ≤ 9223372036854775807) : CallT Try.prog G 135 [sv s] (· = bv (isNamed true s)) := by
 refine k_r01_Feature.runs ctxn rfl ?_
 have q := g2_eq (τ := tStr) (σ := tBool) (f := fun s b => if s.size ≤ 9223372036854775807 then some (bv (isNamed b s)) else none) (a := sv s) (b := bv true) rfl rfl
 rw [if_pos hs] at q
 simp -implicitDefEqProofs [M_r01_Feature, tbn, q]
abbrev Str := ByteArray
def cap : Nat := 1000000000000
def hasS (l : List Str) (s : Str) : Bool := l.any fun x => decide (x = s)
theorem hasS_iff (l : List Str) (s : Str) : hasS l s = true ↔ s ∈ l := by
 simp only [hasS, List.any_eq_true, decide_eq_true_eq]
 exact ⟨fun ⟨x, hx, e⟩ => e ▸ hx, fun h => ⟨s, h, rfl⟩⟩
def S127 (t : T) (s : Str) (j : Nat) : AState := ⟨[(5, .t (iv (j : Int))), (1, .t (sv s)), (0, .t t)], [], 0, 18⟩
theorem among_call {t : T} {l : List Str} (ht : IsS eStr t l) (s : Str) (hl : l.length ≤ cap) : CallT Try.prog G 127 [t, sv s] (· = bv (hasS l s)) := by
 unfold cap at hl
 refine k_r03_Among.call rfl ?_
 unfold M_r03_Among
 refine mc_seq_runs ctx0 ?_
 simp -implicitDefEqProofs
 obtain ⟨n, hn⟩ : ∃ n, n = l.findIdx fun x => decide (x = s) := ⟨_, rfl⟩
 have hle : n ≤ l.length := by rw [hn]; exact findIdx_le _ _
 have hres : hasS l s = decide (n < l.length) := by
  rw [Bool.eq_iff_iff, hasS_iff, decide_eq_true_eq]
  constructor
  ·intro h
   rcases Nat.lt_or_ge n l.length with h1 | h1
   ·exact h1
   ·have := findIdx_none (p := fun x => decide (x = s)) (l := l) (by omega) s h
    simp at this
  ·intro h
   obtain ⟨x, hx, hp⟩ := findIdx_hit (p := fun x => decide (x = s)) (l := l) (by omega)
   have : x = s := by simpa using hp
   subst this
   exact List.mem_of_getElem? hx
 rw [hres]
 refine mc_cut (fun _ : Unit => S127 t s l.length) (fun _ => n = l.length) (fun _ => rfl) ?_ ?_
 ·refine mc_seq_runs ctx0 ?_
  simp -implicitDefEqProofs
  refine mc_block ?_
  refine mc_for (S127 t s) n (fun _ => rfl) ?_ rfl ?_ ?_
  ·refine sub_forget rfl rfl ?_ ?_ <;> simp -implicitDefEqProofs [S127]
  ·intro j hj
   refine mc_runs ctx0 ?_
   have hjl : j < l.length := by omega
   obtain ⟨x, hx⟩ : ∃ x, l[j]? = some x := ⟨_, List.getElem?_eq_getElem hjl⟩
   have hp : ¬ x = s := by simpa using findIdx_not (p := fun x => decide (x = s)) (by rw [← hn]; exact hj) hx
   have e1 : IntKind.i64.wrap ((j : Int) + 1) = ((j + 1 : Nat) : Int) := wrap_nat (by omega) (by omega)
   have ia := ht.iaddr hx .i64
   simp only [eStr, List.cons_append, List.nil_append] at ia
   simp -implicitDefEqProofs [S127, hjl, ht.len, ia, loadM, str_beq, hp, e1]
   refine sub_forget rfl rfl ?_ ?_ <;> simp -implicitDefEqProofs
  ·refine mc_runs ctx0 ?_
   by_cases e : n = l.length
   ·subst e
    simp -implicitDefEqProofs [S127, ht.len]
    exact Next.mk () trivial (sub_forget rfl rfl (by simp -implicitDefEqProofs) (by simp -implicitDefEqProofs))
   ·have hjl : n < l.length := by omega
    obtain ⟨x, hx, hp⟩ := findIdx_hit (p := fun x => decide (x = s)) (l := l) (by rw [← hn]; exact hjl)
    rw [← hn] at hx
    have hp' : x = s := by simpa using hp
    have ia := ht.iaddr hx .i64
    simp only [eStr, List.cons_append, List.nil_append] at ia
    simp -implicitDefEqProofs [S127, hjl, ht.len, ia, loadM, str_beq, hp', e]
 ·rintro _ e
  refine mc_runs ctx0 ?_
  simp -implicitDefEqProofs [S127, e]
noncomputable def gAmong : List T → Option T := g2 (tSl eStr) tStr fun l s => if l.length ≤ cap then some (bv (hasS l s)) else none
theorem among_ok : GOK Try.prog G 127 gAmong := g2_ok fun a b x y r ha hb hr => by
 obtain rfl : b = sv y := hb
 split at hr
 ·rename_i h; injection hr with hr; subst hr; exact among_call ha y h
 ·cases hr
theorem gAmong_eq {t : T} {l : List Str} (ht : IsS eStr t l) (s : Str) (hl : l.length ≤ cap) : gAmong [t, sv s] = some (bv (hasS l s)) := by
 unfold gAmong
 rw [g2_eq (τ := tSl eStr) (σ := tStr) ht rfl, if_pos hl]
def put (l : List Str) (s : Str) : List Str :=
 let k := l.findIdx fun x => !lessS x s
 if l[k]? = some s then l else l.take k ++ [s] ++ l.drop k
def S120 (t : T) (s : Str) (j : Nat) : AState := ⟨[(6, .t (iv (j : Int))), (5, .t nilS), (1, .t (sv s)), (0, .t t)], [], 0, 48⟩
theorem put_call {t : T} {l : List Str} (ht : IsS eStr t l) (s : Str) (hl : l.length ≤ cap) : CallT Try.prog G 120 [t, sv s] (· = treeS eStr (put l s)) := by
 unfold cap at hl
 refine k_r03_Put.call rfl ?_
 unfold M_r03_Put
 refine mc_seq_runs ctx0 ?_
 simp -implicitDefEqProofs
 refine mc_seq_runs ctx0 ?_
 simp -implicitDefEqProofs
 refine mc_seq_runs ctx0 ?_
 simp -implicitDefEqProofs
 obtain ⟨n, hn⟩ : ∃ n, n = l.findIdx fun x => !lessS x s := ⟨_, rfl⟩
 have hle : n ≤ l.length := by rw [hn]; exact findIdx_le _ _
 refine mc_cut (fun _ : Unit => S120 t s n) (fun _ => True) (fun _ => rfl) ?_ ?_
 ·refine mc_block ?_
  refine mc_for (S120 t s) n (fun _ => rfl) ?_ rfl ?_ ?_
  ·refine sub_forget rfl rfl ?_ ?_ <;> simp -implicitDefEqProofs [S120]
  ·intro j hj
   refine mc_runs ctx0 ?_
   have hjl : j < l.length := by omega
   obtain ⟨x, hx⟩ : ∃ x, l[j]? = some x := ⟨_, List.getElem?_eq_getElem hjl⟩
   have hp : lessS x s = true := by simpa using findIdx_not (p := fun x => !lessS x s) (by rw [← hn]; exact hj) hx
   have e1 : IntKind.i64.wrap ((j : Int) + 1) = ((j + 1 : Nat) : Int) := wrap_nat (by omega) (by omega)
   have ia := ht.iaddr hx .i64
   simp only [eStr, List.cons_append, List.nil_append] at ia
   simp -implicitDefEqProofs [S120, hjl, ht.len, ia, loadM, less_def, hp, e1]
   refine sub_forget rfl rfl ?_ ?_ <;> simp -implicitDefEqProofs
  ·refine mc_runs ctx0 ?_
   by_cases e : n = l.length
   ·have : ¬ n < l.length := by omega
    simp -implicitDefEqProofs [S120, ht.len, this]
    exact Next.mk () trivial (sub_forget rfl rfl (by simp -implicitDefEqProofs) (by simp -implicitDefEqProofs))
   ·have hjl : n < l.length := by omega
    obtain ⟨x, hx, hp⟩ := findIdx_hit (p := fun x => !lessS x s) (l := l) (by rw [← hn]; exact hjl)
    rw [← hn] at hx
    have hp' : lessS x s = false := by simpa using hp
    have ia := ht.iaddr hx .i64
    simp only [eStr, List.cons_append, List.nil_append] at ia
    simp -implicitDefEqProofs [S120, hjl, ht.len, ia, loadM, less_def, hp']
    exact Next.mk () trivial (sub_forget rfl rfl (by simp -implicitDefEqProofs) (by simp -implicitDefEqProofs))
 ·rintro _ -
  by_cases hhit : l[n]? = some s
  ·have hput : put l s = l := by simp only [put, ← hn, hhit, if_true]
   have hjl : n < l.length := (List.getElem?_eq_some_iff.1 hhit).1
   have htree : t = treeS eStr l := by
    rcases ht with ⟨_, rfl⟩ | rfl
    ·simp at hjl
    ·cases l with
     | nil => simp at hjl
     | cons a r => rfl
   rw [hput]
   have ia := ht.iaddr hhit .i64
   simp only [eStr, List.cons_append, List.nil_append] at ia
   refine mc_runs ctx0 ?_
   simp -implicitDefEqProofs [S120, hjl, ht.len, ia, loadM, str_beq]
   exact htree
  ·have hput : put l s = l.take n ++ [s] ++ l.drop n := by simp only [put, ← hn, hhit, if_false]
   obtain ⟨t1, hs1, h1⟩ := ht.slice_to hle .i64
   obtain ⟨t2, hs2, h2⟩ := ht.slice_from hle .i64
   have hsz : eStr.z = 1 := rfl
   rw [hsz] at hs1 hs2
   have l1 : (l.take n).length = n := by simp; omega
   have l2 : (l.drop n).length = l.length - n := by simp
   obtain ⟨b1, H1, n1, ap1, r1, ne1, _⟩ := app_some (e := eStr) (ty := 9) (by' := 16) (nx := 0) (b := 0) (l := []) (m := l.take n) (RowAt.nil _ _ [] _) (src_tree h1) (by rw [l1]; simp; omega) (by rw [l1]; simp; omega)
   rw [List.nil_append] at ap1 r1
   obtain ⟨b2, H2, n2, ap2, r2, ne2, _⟩ := app_some (e := eStr) (ty := 9) (by' := 16) (nx := n1 + 1) (m := [s]) (r1.cons (r := .cells 9 [.t (sv s)]) (Ne.symm ne1)) (src_one (b := n1) (ty := 9) s (by simp [eStr])) (by rw [l1]; simp; omega) (by rw [l1]; simp; omega)
   obtain ⟨b3, H3, n3, ap3, r3, ne3, _⟩ := app_some (e := eStr) (ty := 9) (by' := 16) (nx := n2) (m := l.drop n) r2 (src_tree h2) (by simp; omega) (by simp; omega)
   rw [hsz] at ap1 ap2 ap3
   have ap1 : appM 9 1 16 [] 0 (.t nilS) (.t t1) = some (rowP eStr b1 (l.take n), H1, n1) := ap1
   rw [← hput] at ap3 r3
   have bs : bsliceM 9 1 [.string ⟨#[]⟩] 1 [(0, .t (sv s))] n1 = some (.row n1 0 1 1, .cells 9 [.t (sv s)]) := rfl
   have tt := r3.toT
   refine mc_runs ctx0 ?_
   by_cases e : n < l.length
   ·obtain ⟨x, hx⟩ : ∃ x, l[n]? = some x := ⟨_, List.getElem?_eq_getElem e⟩
    have hxs : ¬ x = s := fun h => hhit (by rw [hx, h])
    have ia := ht.iaddr hx .i64
    simp only [eStr, List.cons_append, List.nil_append] at ia
    simp -implicitDefEqProofs [S120, e, ht.len, ia, loadM, str_beq, hxs, hs1, hs2, ap1, bs, ap2, ap3, tt]
   ·simp -implicitDefEqProofs [S120, e, ht.len, hs1, hs2, ap1, bs, ap2, ap3, tt]
noncomputable def gPut : List T → Option T := g2 (tSl eStr) tStr fun l s => if l.length ≤ cap then some (treeS eStr (put l s)) else none
theorem put_ok : GOK Try.prog G 120 gPut := g2_ok fun a b x y r ha hb hr => by
 obtain rfl : b = sv y := hb
 split at hr
 ·rename_i h; injection hr with hr; subst hr; exact put_call ha y h
 ·cases hr
theorem gPut_eq {t : T} {l : List Str} (ht : IsS eStr t l) (s : Str) (hl : l.length ≤ cap) : gPut [t, sv s] = some (treeS eStr (put l s)) := by
 unfold gPut
 rw [g2_eq (τ := tSl eStr) (σ := tStr) ht rfl, if_pos hl]
structure TD where
 name : Str
 supers : T
 feats : T
structure FD where
 feat : Str
 value : Str
def eTD : Enc TD := ⟨3, fun x => [sv x.name, x.supers, x.feats], fun _ => rfl, by omega, fun a b h => by
 obtain ⟨a1, a2, a3⟩ := a
 obtain ⟨b1, b2, b3⟩ := b
 simp at h
 simp [h]⟩
def eFD : Enc FD := ⟨2, fun x => [sv x.feat, sv x.value], fun _ => rfl, by omega, fun a b h => by
 obtain ⟨a1, a2⟩ := a
 obtain ⟨b1, b2⟩ := b
 simp at h
 simp [h]⟩
noncomputable def TD.ss (x : TD) : List Str := ((tSl eStr).dec x.supers).getD []
noncomputable def TD.fs (x : TD) : List FD := ((tSl eFD).dec x.feats).getD []
structure TD.OK (x : TD) : Prop where
 ss : IsS eStr x.supers x.ss
 fs : IsS eFD x.feats x.fs
 ssl : x.ss.length ≤ cap
 fsl : x.fs.length ≤ cap
 size : x.name.size ≤ cap
 fsize : ∀ f ∈ x.fs, f.feat.size ≤ cap
theorem TD.ss_eq {x : TD} {l : List Str} (h : IsS eStr x.supers l) : x.ss = l := by
 have := Ty.dec_is (τ := tSl eStr) h
 simp only [TD.ss, this, Option.getD_some]
theorem TD.fs_eq {x : TD} {l : List FD} (h : IsS eFD x.feats l) : x.fs = l := by
 have := Ty.dec_is (τ := tSl eFD) h
 simp only [TD.fs, this, Option.getD_some]
def DOK (d : List TD) : Prop := d.length ≤ 300 ∧ ∀ x ∈ d, x.OK
def idxOf (d : List TD) (s : Str) : Nat := d.findIdx fun x => decide (x.name = s)
def findD (d : List TD) (s : Str) : Int := if idxOf d s < d.length then (idxOf d s : Int) else -1
def S_r03_find (t : T) (s : Str) (j : Nat) : AState := ⟨[(5, .t (iv (j : Int))), (1, .t (sv s)), (0, .t t)], [], 0, 20⟩
theorem find_call {t : T} {d : List TD} (ht : IsS eTD t d) (s : Str) (hl : d.length ≤ cap) : CallT Try.prog G 137 [t, sv s] (· = iv (findD d s)) := by
 unfold cap at hl
 refine k_r03_find.call rfl ?_
 unfold M_r03_find
 refine mc_seq_runs ctx0 ?_
 simp -implicitDefEqProofs
 obtain ⟨n, hn⟩ : ∃ n, n = d.findIdx fun x => decide (x.name = s) := ⟨_, rfl⟩
 have hle : n ≤ d.length := by rw [hn]; exact findIdx_le _ _
 have hres : findD d s = if n < d.length then (n : Int) else -1 := by rw [hn]; rfl
 refine mc_cut (fun _ : Unit => S_r03_find t s d.length) (fun _ => n = d.length) (fun _ => rfl) ?_ ?_
 ·refine mc_seq_runs ctx0 ?_
  simp -implicitDefEqProofs
  refine mc_block ?_
  refine mc_for (S_r03_find t s) n (fun _ => rfl) ?_ rfl ?_ ?_
  ·refine sub_forget rfl rfl ?_ ?_ <;> simp -implicitDefEqProofs [S_r03_find]
  ·intro j hj
   refine mc_runs ctx0 ?_
   have hjl : j < d.length := by omega
   obtain ⟨x, hx⟩ : ∃ x, d[j]? = some x := ⟨_, List.getElem?_eq_getElem hjl⟩
   have hp := findIdx_not (p := fun x => decide (x.name = s)) (by rw [← hn]; exact hj) hx
   have e1 : IntKind.i64.wrap ((j : Int) + 1) = ((j + 1 : Nat) : Int) := wrap_nat (by omega) (by omega)
   have ia := ht.iaddr hx .i64
   simp only [eTD, List.cons_append, List.nil_append] at ia
   have hp : ¬ x.name = s := by simpa using hp
   simp -implicitDefEqProofs [S_r03_find, hjl, ht.len, ia, loadM, e1, str_beq, hp]
   refine sub_forget rfl rfl ?_ ?_ <;> simp -implicitDefEqProofs
  ·refine mc_runs ctx0 ?_
   by_cases e : n = d.length
   ·have hnl : ¬ n < d.length := by omega
    simp -implicitDefEqProofs [S_r03_find, ht.len, hnl]
    exact Next.mk () (by first | exact trivial | exact e) (sub_forget rfl rfl (by simp -implicitDefEqProofs [e]) (by simp -implicitDefEqProofs))
   ·have hjl : n < d.length := by omega
    obtain ⟨x, hx, hp⟩ := findIdx_hit (p := fun x => decide (x.name = s)) (l := d) (by rw [← hn]; exact hjl)
    rw [← hn] at hx
    have ia := ht.iaddr hx .i64
    simp only [eTD, List.cons_append, List.nil_append] at ia
    have hp : x.name = s := by simpa using hp
    simp -implicitDefEqProofs [S_r03_find, hjl, ht.len, ia, loadM, str_beq, hp]
    rw [hres, if_pos hjl]
 ·rintro _ e
  refine mc_runs ctx0 ?_
  simp -implicitDefEqProofs [S_r03_find]
  rw [hres, if_neg (by omega)]
noncomputable def gFind : List T → Option T := g2 (tSl eTD) tStr fun d s => if d.length ≤ cap then some (iv (findD d s)) else none
theorem find_ok : GOK Try.prog G 137 gFind := g2_ok fun a b x y r ha hb hr => by
 obtain rfl : b = sv y := hb
 split at hr
 ·rename_i h; injection hr with hr; subst hr; exact find_call ha y h
 ·cases hr
theorem gFind_eq {t : T} {d : List TD} (ht : IsS eTD t d) (s : Str) (hl : d.length ≤ cap) : gFind [t, sv s] = some (iv (findD d s)) := by
 unfold gFind
 rw [g2_eq (τ := tSl eTD) (σ := tStr) ht rfl, if_pos hl]
def namesUpTo (d : List TD) (j : Nat) : List Str := (d.take j).foldl (fun out x => put out x.name) []
def names (d : List TD) : List Str := d.foldl (fun out x => put out x.name) []
theorem namesUpTo_succ {d : List TD} {j : Nat} {x : TD} (h : d[j]? = some x) : namesUpTo d (j + 1) = put (namesUpTo d j) x.name := by
 unfold namesUpTo
 rw [List.take_add_one, h]
 simp [List.foldl_append]
theorem length_put (l : List Str) (s : Str) : (put l s).length ≤ l.length + 1 := by
 unfold put
 simp only
 split
 ·omega
 ·simp
  have := findIdx_le (fun x => !lessS x s) l
  omega
theorem length_namesUpTo (d : List TD) : ∀ j, (namesUpTo d j).length ≤ j
 | 0 => by simp [namesUpTo]
 | j + 1 => by
  have ih := length_namesUpTo d j
  cases h : d[j]? with
  | none =>
   have : namesUpTo d (j + 1) = namesUpTo d j := by unfold namesUpTo; rw [List.take_add_one, h]; simp
   rw [this]; omega
  | some x =>
   rw [namesUpTo_succ h]
   have := length_put (namesUpTo d j) x.name
   omega
noncomputable def tb11 : Tbl := [(120, gPut), (137, gFind), (127, gAmong)]
theorem ctx11 : Ctx Try.prog G (orc tb11) := (TblOK.cons put_ok (.cons find_ok (.cons among_ok .nil))).ctx mixed
def S102 (t : T) (d : List TD) (j : Nat) : AState := ⟨[(4, .t (iv (j : Int))), (3, .t (treeS eStr (namesUpTo d j))), (0, .t t)], [], 0, 19⟩
theorem names_call {t : T} {d : List TD} (ht : IsS eTD t d) (hl : d.length ≤ cap) : CallT Try.prog G 102 [t] (· = treeS eStr (names d)) := by
 unfold cap at hl
 refine k_r03_Names.call rfl ?_
 unfold M_r03_Names
 refine mc_seq_runs ctx11 ?_
 simp -implicitDefEqProofs
 refine mc_seq_runs ctx11 ?_
 simp -implicitDefEqProofs
 refine mc_cut (fun _ : Unit => S102 t d d.length) (fun _ => True) (fun _ => rfl) ?_ ?_
 ·refine mc_seq_runs ctx11 ?_
  simp -implicitDefEqProofs
  refine mc_block ?_
  refine mc_for (S102 t d) d.length (fun _ => rfl) ?_ rfl ?_ ?_
  ·refine sub_forget rfl rfl ?_ ?_ <;> simp -implicitDefEqProofs [S102, namesUpTo, treeS]
  ·intro j hj
   refine mc_runs ctx11 ?_
   obtain ⟨x, hx⟩ : ∃ x, d[j]? = some x := ⟨_, List.getElem?_eq_getElem hj⟩
   have e1 : IntKind.i64.wrap ((j : Int) + 1) = ((j + 1 : Nat) : Int) := wrap_nat (by omega) (by omega)
   have ia := ht.iaddr hx .i64
   simp only [eTD, List.cons_append, List.nil_append] at ia
   have hln := length_namesUpTo d j
   have gp := gPut_eq (IsS.tree eStr (namesUpTo d j)) x.name (by unfold cap; omega)
   rw [← namesUpTo_succ hx] at gp
   simp -implicitDefEqProofs [S102, hj, ht.len, ia, loadM, tb11, gp, e1]
   refine sub_forget rfl rfl ?_ ?_ <;> simp -implicitDefEqProofs
  ·refine mc_runs ctx11 ?_
   simp -implicitDefEqProofs [S102, ht.len]
   exact Next.mk () trivial (sub_forget rfl rfl (by simp -implicitDefEqProofs) (by simp -implicitDefEqProofs))
 ·rintro _ -
  refine mc_runs ctx11 ?_
  have : namesUpTo d d.length = names d := by unfold namesUpTo names; rw [List.take_length]
  simp -implicitDefEqProofs [S102, this]
end Go.Proofs.Ytbiadmfmjnoecaa
