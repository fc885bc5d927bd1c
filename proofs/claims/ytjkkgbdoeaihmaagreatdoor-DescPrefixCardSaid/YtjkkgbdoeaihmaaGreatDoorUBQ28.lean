/-
 Auxiliary facts. No statement of the program stands here.
-/
import Derived.Test.YtjkkgbdoeaihmaaGreatDoorUBQ27
namespace Go.Proofs.YtjkkgbdoeaihmaaGreatDoor
set_option linter.unusedSimpArgs false
set_option linter.unusedVariables false
open Go Go.Abs
variable {q : Gl}
def quoT (l : List UInt8) : T := if (quoN (l.drop 1)).2 = 0 then .tu [iv ((quoN (l.drop 1)).1 + 2 : Nat), iv 0] else .tu [iv 0, iv (quoN (l.drop 1)).2]
def SRq (s : ByteArray) (p : Nat) : AState := ⟨[(4, .t (iv (p : Int))), (0, .t (sv s))], [], 0, 27⟩
theorem rquo_call (s : ByteArray) (hs : s.size ≤ 65536) (h0 : 0 < s.size) : CallT Tryz.prog (G q) 53 [sv s] (· = quoT s.data.toList) := by
 have hlen : s.data.toList.length = s.size := rfl
 obtain ⟨l, hl⟩ : ∃ l, l = s.data.toList := ⟨_, rfl⟩
 rw [← hl] at hlen ⊢
 obtain ⟨hq1, hq2, hq3⟩ := quoN_le (l.drop 1)
 rw [List.length_drop] at hq1 hq2
 have hT : quoT l = if (quoN (l.drop 1)).2 = 0 then .tu [iv ((quoN (l.drop 1)).1 + 2 : Nat), iv 0] else .tu [iv 0, iv (quoN (l.drop 1)).2] := rfl
 obtain ⟨n, hn⟩ : ∃ n, n = (quoN (l.drop 1)).1 := ⟨_, rfl⟩
 obtain ⟨e, he⟩ : ∃ e, e = (quoN (l.drop 1)).2 := ⟨_, rfl⟩
 rw [← hn, ← he] at hT
 rw [← hn, ← he] at hq2
 rw [← hn] at hq1
 refine k_r01_quoted.call rfl ?_
 unfold M_r01_quoted
 refine mc_seq_runs ctx0 ?_
 simp -implicitDefEqProofs
 refine mc_cut (α := Unit) (fun _ => SRq s s.size) (fun _ => e = 9) (fun _ => rfl) ?_ ?_
 ·refine mc_seq_runs ctx0 ?_
  simp -implicitDefEqProofs
  refine mc_block ?_
  refine mc_while (SRq s) (fun p => s.size - p) (OkQ l (1 + n) e 1) 1 (fun _ => rfl) ⟨Nat.le_refl _, by omega, by rw [← hn], by rw [← he]⟩ ?_ rfl ?_
  ·refine sub_forget rfl rfl ?_ ?_ <;> simp -implicitDefEqProofs [SRq]
  ·rintro p ⟨hp0, hp, hp1, hp2⟩
   refine mc_runs ctx0 ?_
   by_cases hlt : p < s.size
   ·obtain ⟨c, hc⟩ : ∃ c, l[p]? = some c := ⟨_, List.getElem?_eq_getElem (by omega)⟩
    have ix := index_str s p c (by rw [← hl]; exact hc)
    have hdrop : l.drop p = c :: l.drop (p + 1) := by
     have := List.drop_eq_getElem_cons (l := l) (i := p) (by omega)
     rw [this, (List.getElem?_eq_some_iff.1 hc).2]
    rw [hdrop, quoN] at hp1 hp2
    obtain ⟨p1, hp1'⟩ : ∃ p1, p1 = p + 1 := ⟨_, rfl⟩
    rw [← hp1'] at hp1 hp2
    have e1 : IntKind.i64.wrap ((p : Int) + 1) = (p1 : Int) := by rw [hp1']; exact wrap_nat (by omega) (by omega)
    have b34 : ((c.toNat : Int) == 34) = decide (c.toNat = 34) := by
     by_cases h : c.toNat = 34
     ·rw [h]; rfl
     ·rw [decide_eq_false h, beq_eq_false_iff_ne]; omega
    by_cases h34 : c.toNat = 34
    ·rw [if_pos h34] at hp1 hp2
     rw [decide_eq_true h34] at b34
     have hpz : p = 1 + n := by simpa using hp1
     have he0 : e = 0 := by simpa using hp2.symm
     rw [if_pos he0, show n + 2 = p1 by omega] at hT
     simp -implicitDefEqProofs [SRq, hlt, ix, b34, e1, hT]
    ·rw [if_neg h34] at hp1 hp2
     rw [decide_eq_false h34] at b34
     have hk := prt_int c
     have bad : prt c = false → quoT l = .tu [iv 0, iv 8] := by
      intro h
      rw [h] at hp1 hp2
      simp at hp1 hp2
      rw [hT, if_neg (by omega), ← hp2]
     cases t1 : decide ((c.toNat : Int) < 32) with
     | true => rw [t1] at hk; simp -implicitDefEqProofs [SRq, hlt, ix, b34, t1, bad hk]
     | false =>
      cases t2 : decide (126 < (c.toNat : Int)) with
      | true => rw [t1, t2] at hk; simp -implicitDefEqProofs [SRq, hlt, ix, b34, t1, t2, bad hk]
      | false =>
       rw [t1, t2] at hk
       rw [hk] at hp1 hp2
       simp only [Bool.or_self, Bool.not_false, if_true] at hp1 hp2
       simp -implicitDefEqProofs [SRq, hlt, ix, b34, t1, t2, e1]
       exact Abs.Next.mk p1 ⟨⟨by omega, by omega, by omega, hp2⟩, by omega⟩ (sub_forget rfl rfl (by simp -implicitDefEqProofs [SRq]) (by simp -implicitDefEqProofs [SRq]))
   ·have hd0 : l.drop p = [] := List.drop_eq_nil_of_le (by omega)
    rw [hd0, quoN] at hp1 hp2
    have h2 : e = 9 := by simpa using hp2.symm
    have hps : p = s.size := by omega
    subst hps
    simp -implicitDefEqProofs [SRq]
    exact Abs.Next.mk () h2 (sub_forget rfl rfl (by simp -implicitDefEqProofs [SRq]) (by simp -implicitDefEqProofs [SRq]))
 rintro _ h9
 have hT9 : quoT l = .tu [iv 0, iv 9] := by rw [hT, h9, if_neg (by omega)]
 refine mc_runs ctx0 ?_
 simp -implicitDefEqProofs [SRq, hT9]
theorem pre2 (l : List UInt8) (x y : UInt8) : Lib.hasPrefix l [x, y] = (decide (1 < l.length) && (l.take 2 == [x, y])) := by
 cases l with
 | nil => rfl
 | cons a l =>
  cases l with
  | nil => simp [Lib.hasPrefix, List.isPrefixOf]
  | cons b l =>
   have : decide (1 < (a :: b :: l).length) = true := by simp
   rw [this, Bool.true_and]
   show (x == a && (y == b && true)) = (a == x && (b == y && true))
   have cm : ∀ u v : UInt8, (u == v) = (v == u) := by
    intro u v
    by_cases h : u = v
    ·subst h; rfl
    ·rw [beq_eq_false_iff_ne.2 h, beq_eq_false_iff_ne.2 (Ne.symm h)]
   rw [cm x a, cm y b]
def SymOk (c : UInt8) (l : List UInt8) : Prop := symS l = if symC.contains c then (1, 0) else (0, 8)
set_option maxHeartbeats 4000000 in
theorem rsym_call (s : ByteArray) (hs : s.size ≤ 65536) (h0 : 0 < s.size) : CallT Tryz.prog (G q) 54 [sv s] (· = iv ((symS s.data.toList).1 : Int)) := by
 have hlen : s.data.toList.length = s.size := rfl
 obtain ⟨l, hl⟩ : ∃ l, l = s.data.toList := ⟨_, rfl⟩
 rw [← hl] at hlen ⊢
 obtain ⟨c, hc⟩ : ∃ c, l[0]? = some c := ⟨_, List.getElem?_eq_getElem (by omega)⟩
 have ix := index_str s 0 c (by rw [← hl]; exact hc)
 simp only [Int.natCast_zero] at ix
 have hh : l.head? = some c := by rw [List.head?_eq_getElem?]; exact hc
 have p1 := pre2 l 60 33
 have p2 := pre2 l 33 62
 have hS : symS l = if Lib.hasPrefix l [60, 33] || Lib.hasPrefix l [33, 62] then (2, 0) else if symC.contains c then (1, 0) else (0, 8) := by
  unfold symS; rw [hh]; rfl
 rw [p1, p2] at hS
 refine k_r01_symbol.call rfl ?_
 unfold M_r01_symbol
 refine mc_seq_runs ctx0 ?_
 simp -implicitDefEqProofs
 -- the test on two bytes
 refine mc_cut (α := Unit) (fun _ => (⟨[(0, .t (sv s))], [], 0, 37⟩ : AState)) (fun _ => SymOk c l) (fun _ => rfl) ?_ ?_
 ·refine mc_runs ctx0 ?_
  by_cases h1 : 1 < s.size
  ·have h1' : (1 : Int) < (s.size : Int) := by omega
   rw [decide_eq_true (by omega : 1 < l.length)] at hS
   have hsl := slstr_to s 2 (by omega)
   have hx : (s.extract 0 2).toList = l.take 2 := by rw [stl, Lib.extract_data, ← hl]; rfl
   have hsl' : slstrM (.t (sv s)) none (some (.t (.v (.int .i64 2)))) = some (.t (sv (s.extract 0 2))) := hsl
   cases b1 : (l.take 2 == [60, 33]) with
   | true =>
    rw [b1] at hS
    have hS2 : symS l = (2, 0) := by rw [hS]; rfl
    simp -implicitDefEqProofs [h1', hsl', hx, stl_mk, b1, hS2]
   | false =>
    cases b2 : (l.take 2 == [33, 62]) with
    | true =>
     rw [b1, b2] at hS
     have hS2 : symS l = (2, 0) := by rw [hS]; rfl
     simp -implicitDefEqProofs [h1', hsl', hx, stl_mk, b1, b2, hS2]
    | false =>
     rw [b1, b2] at hS
     simp -implicitDefEqProofs [h1', hsl', hx, stl_mk, b1, b2]
     exact Abs.Next.mk () (by show symS l = _; rw [hS]; rfl) (sub_forget rfl rfl (by simp -implicitDefEqProofs) (by simp -implicitDefEqProofs))
  ·have h1' : ¬ (1 : Int) < (s.size : Int) := by omega
   rw [decide_eq_false (by omega : ¬ 1 < l.length)] at hS
   simp -implicitDefEqProofs [h1']
   exact Abs.Next.mk () (by show symS l = _; rw [hS]; rfl) (sub_forget rfl rfl (by simp -implicitDefEqProofs) (by simp -implicitDefEqProofs))
 rintro _ hok
 have hok : symS l = if symC.contains c then (1, 0) else (0, 8) := hok
 have yes : ∀ n : Nat, symC.contains (UInt8.ofNat n) = true → c.toNat = n → (symS l).1 = 1 := by
  intro n h e
  have : c = UInt8.ofNat n := by rw [← e]; simp
  rw [hok, this, h]; rfl
 refine mc_runs ctx0 ?_
 by_cases h40 : c.toNat = 40
 ·have b : ((c.toNat : Int) == 40) = true := by rw [h40]; rfl
  have hy : (symS l).1 = 1 := yes 40 (by decide) h40
  simp -implicitDefEqProofs [ix, b, hy]
 have f40 : ((c.toNat : Int) == 40) = false := by rw [beq_eq_false_iff_ne]; omega
 by_cases h41 : c.toNat = 41
 ·have b : ((c.toNat : Int) == 41) = true := by rw [h41]; rfl
  have hy : (symS l).1 = 1 := yes 41 (by decide) h41
  simp -implicitDefEqProofs [ix, f40, b, hy]
 have f41 : ((c.toNat : Int) == 41) = false := by rw [beq_eq_false_iff_ne]; omega
 by_cases h91 : c.toNat = 91
 ·have b : ((c.toNat : Int) == 91) = true := by rw [h91]; rfl
  have hy : (symS l).1 = 1 := yes 91 (by decide) h91
  simp -implicitDefEqProofs [ix, f40, f41, b, hy]
 have f91 : ((c.toNat : Int) == 91) = false := by rw [beq_eq_false_iff_ne]; omega
 by_cases h93 : c.toNat = 93
 ·have b : ((c.toNat : Int) == 93) = true := by rw [h93]; rfl
  have hy : (symS l).1 = 1 := yes 93 (by decide) h93
  simp -implicitDefEqProofs [ix, f40, f41, f91, b, hy]
 have f93 : ((c.toNat : Int) == 93) = false := by rw [beq_eq_false_iff_ne]; omega
 by_cases h60 : c.toNat = 60
 ·have b : ((c.toNat : Int) == 60) = true := by rw [h60]; rfl
  have hy : (symS l).1 = 1 := yes 60 (by decide) h60
  simp -implicitDefEqProofs [ix, f40, f41, f91, f93, b, hy]
 have f60 : ((c.toNat : Int) == 60) = false := by rw [beq_eq_false_iff_ne]; omega
 by_cases h62 : c.toNat = 62
 ·have b : ((c.toNat : Int) == 62) = true := by rw [h62]; rfl
  have hy : (symS l).1 = 1 := yes 62 (by decide) h62
  simp -implicitDefEqProofs [ix, f40, f41, f91, f93, f60, b, hy]
 have f62 : ((c.toNat : Int) == 62) = false := by rw [beq_eq_false_iff_ne]; omega
 by_cases h123 : c.toNat = 123
 ·have b : ((c.toNat : Int) == 123) = true := by rw [h123]; rfl
  have hy : (symS l).1 = 1 := yes 123 (by decide) h123
  simp -implicitDefEqProofs [ix, f40, f41, f91, f93, f60, f62, b, hy]
 have f123 : ((c.toNat : Int) == 123) = false := by rw [beq_eq_false_iff_ne]; omega
 by_cases h125 : c.toNat = 125
 ·have b : ((c.toNat : Int) == 125) = true := by rw [h125]; rfl
  have hy : (symS l).1 = 1 := yes 125 (by decide) h125
  simp -implicitDefEqProofs [ix, f40, f41, f91, f93, f60, f62, f123, b, hy]
 have f125 : ((c.toNat : Int) == 125) = false := by rw [beq_eq_false_iff_ne]; omega
 by_cases h44 : c.toNat = 44
 ·have b : ((c.toNat : Int) == 44) = true := by rw [h44]; rfl
  have hy : (symS l).1 = 1 := yes 44 (by decide) h44
  simp -implicitDefEqProofs [ix, f40, f41, f91, f93, f60, f62, f123, f125, b, hy]
 have f44 : ((c.toNat : Int) == 44) = false := by rw [beq_eq_false_iff_ne]; omega
 by_cases h46 : c.toNat = 46
 ·have b : ((c.toNat : Int) == 46) = true := by rw [h46]; rfl
  have hy : (symS l).1 = 1 := yes 46 (by decide) h46
  simp -implicitDefEqProofs [ix, f40, f41, f91, f93, f60, f62, f123, f125, f44, b, hy]
 have f46 : ((c.toNat : Int) == 46) = false := by rw [beq_eq_false_iff_ne]; omega
 by_cases h59 : c.toNat = 59
 ·have b : ((c.toNat : Int) == 59) = true := by rw [h59]; rfl
  have hy : (symS l).1 = 1 := yes 59 (by decide) h59
  simp -implicitDefEqProofs [ix, f40, f41, f91, f93, f60, f62, f123, f125, f44, f46, b, hy]
 have f59 : ((c.toNat : Int) == 59) = false := by rw [beq_eq_false_iff_ne]; omega
 by_cases h58 : c.toNat = 58
 ·have b : ((c.toNat : Int) == 58) = true := by rw [h58]; rfl
  have hy : (symS l).1 = 1 := yes 58 (by decide) h58
  simp -implicitDefEqProofs [ix, f40, f41, f91, f93, f60, f62, f123, f125, f44, f46, f59, b, hy]
 have f58 : ((c.toNat : Int) == 58) = false := by rw [beq_eq_false_iff_ne]; omega
 by_cases h61 : c.toNat = 61
 ·have b : ((c.toNat : Int) == 61) = true := by rw [h61]; rfl
  have hy : (symS l).1 = 1 := yes 61 (by decide) h61
  simp -implicitDefEqProofs [ix, f40, f41, f91, f93, f60, f62, f123, f125, f44, f46, f59, f58, b, hy]
 have f61 : ((c.toNat : Int) == 61) = false := by rw [beq_eq_false_iff_ne]; omega
 by_cases h38 : c.toNat = 38
 ·have b : ((c.toNat : Int) == 38) = true := by rw [h38]; rfl
  have hy : (symS l).1 = 1 := yes 38 (by decide) h38
  simp -implicitDefEqProofs [ix, f40, f41, f91, f93, f60, f62, f123, f125, f44, f46, f59, f58, f61, b, hy]
 have f38 : ((c.toNat : Int) == 38) = false := by rw [beq_eq_false_iff_ne]; omega
 by_cases h124 : c.toNat = 124
 ·have b : ((c.toNat : Int) == 124) = true := by rw [h124]; rfl
  have hy : (symS l).1 = 1 := yes 124 (by decide) h124
  simp -implicitDefEqProofs [ix, f40, f41, f91, f93, f60, f62, f123, f125, f44, f46, f59, f58, f61, f38, b, hy]
 have f124 : ((c.toNat : Int) == 124) = false := by rw [beq_eq_false_iff_ne]; omega
 by_cases h47 : c.toNat = 47
 ·have b : ((c.toNat : Int) == 47) = true := by rw [h47]; rfl
  have hy : (symS l).1 = 1 := yes 47 (by decide) h47
  simp -implicitDefEqProofs [ix, f40, f41, f91, f93, f60, f62, f123, f125, f44, f46, f59, f58, f61, f38, f124, b, hy]
 have f47 : ((c.toNat : Int) == 47) = false := by rw [beq_eq_false_iff_ne]; omega
 by_cases h35 : c.toNat = 35
 ·have b : ((c.toNat : Int) == 35) = true := by rw [h35]; rfl
  have hy : (symS l).1 = 1 := yes 35 (by decide) h35
  simp -implicitDefEqProofs [ix, f40, f41, f91, f93, f60, f62, f123, f125, f44, f46, f59, f58, f61, f38, f124, f47, b, hy]
 have f35 : ((c.toNat : Int) == 35) = false := by rw [beq_eq_false_iff_ne]; omega
 by_cases h64 : c.toNat = 64
 ·have b : ((c.toNat : Int) == 64) = true := by rw [h64]; rfl
  have hy : (symS l).1 = 1 := yes 64 (by decide) h64
  simp -implicitDefEqProofs [ix, f40, f41, f91, f93, f60, f62, f123, f125, f44, f46, f59, f58, f61, f38, f124, f47, f35, b, hy]
 have f64 : ((c.toNat : Int) == 64) = false := by rw [beq_eq_false_iff_ne]; omega
 have hno : symC.contains c = false := by
  cases h : symC.contains c with
  | false => rfl
  | true =>
   exfalso
   have hm : c ∈ symC := by simpa using h
   simp only [symC, List.mem_cons, List.not_mem_nil, or_false] at hm
   rcases hm with rfl | rfl | rfl | rfl | rfl | rfl | rfl | rfl | rfl | rfl | rfl | rfl | rfl | rfl | rfl | rfl | rfl | rfl <;> simp at *
 have hy : (symS l).1 = 0 := by rw [hok, hno]; rfl
 simp -implicitDefEqProofs [ix, f40, f41, f91, f93, f60, f62, f123, f125, f44, f46, f59, f58, f61, f38, f124, f47, f35, f64, hy]
abbrev tokR (k : Int) (t : List UInt8) (n : Nat) (e : Int) : T := .tu [.ag (tkc k t 0), iv (n : Int), iv e]
def rtokT (l : List UInt8) : T :=
 match l with
 | [] => tokR 0 [] 0 8
 | c :: _ =>
  if isLow c || isUp c then (if 32 < runN (isUp c) l then tokR 0 [] 0 7 else tokR (if isUp c then 2 else 1) (l.take (runN (isUp c) l)) (runN (isUp c) l) 0)
  else if 0 < figR l then tokR 4 (l.take (figR l)) (figR l) (numS (l.take (figR l))).2
  else if c.toNat = 34 then (if (quoN (l.drop 1)).2 = 0 then tokR 3 ((l.drop 1).take (quoN (l.drop 1)).1) ((quoN (l.drop 1)).1 + 2) 0 else tokR 0 [] 0 (quoN (l.drop 1)).2)
  else if 0 < (symS l).1 then tokR 5 (l.take (symS l).1) (symS l).1 0 else tokR 0 [] 0 8
theorem nextS_cons {c : UInt8} {r l : List UInt8} (h : c :: r = l) : nextS l =
  if isLow c then ⟨1, l.take (runN false l), if 32 < runN false l then 7 else 0, runN false l⟩
  else if isUp c then ⟨2, l.take (runN true l), if 32 < runN true l then 7 else 0, runN true l⟩
  else if isDig c || decide (c.toNat = 45) then ⟨4, l.take (figN l), figE (l.take (figN l)), figN l⟩
  else if c.toNat = 34 then ⟨3, (l.drop 1).take (quoN (l.drop 1)).1, (quoN (l.drop 1)).2, 1 + (quoN (l.drop 1)).1 + (if (quoN (l.drop 1)).2 = 0 then 1 else 0)⟩
  else ⟨5, l.take (symS l).1, (symS l).2, (symS l).1⟩ := by subst h; rfl
theorem rtokT_cons {c : UInt8} {r l : List UInt8} (h : c :: r = l) : rtokT l =
  if isLow c || isUp c then (if 32 < runN (isUp c) l then tokR 0 [] 0 7 else tokR (if isUp c then 2 else 1) (l.take (runN (isUp c) l)) (runN (isUp c) l) 0)
  else if 0 < figR l then tokR 4 (l.take (figR l)) (figR l) (numS (l.take (figR l))).2
  else if c.toNat = 34 then (if (quoN (l.drop 1)).2 = 0 then tokR 3 ((l.drop 1).take (quoN (l.drop 1)).1) ((quoN (l.drop 1)).1 + 2) 0 else tokR 0 [] 0 (quoN (l.drop 1)).2)
  else if 0 < (symS l).1 then tokR 5 (l.take (symS l).1) (symS l).1 0 else tokR 0 [] 0 8 := by subst h; rfl
theorem low_not_up {c : UInt8} (h : isLow c = true) : isUp c = false := by
 simp only [isLow, isUp, Bool.and_eq_true, decide_eq_true_eq] at h ⊢
 rw [Bool.and_eq_false_iff]; right; rw [decide_eq_false_iff_not]; omega
theorem rtok_next (l : List UInt8) (h0 : l.isEmpty = false) : if (nextS l).e = 0 then rtokT l = tokR (nextS l).k (nextS l).t (nextS l).n 0 else ∃ k t n, rtokT l = tokR k t n (nextS l).e := by
 cases l with
 | nil => cases h0
 | cons c r =>
  generalize hl : c :: r = l
  have hN := nextS_cons hl
  have hR := rtokT_cons hl
  by_cases t1 : isLow c = true
  ·rw [if_pos t1] at hN
   rw [t1, low_not_up t1] at hR
   simp only [Bool.true_or, if_true, Bool.false_eq_true, if_false] at hR
   rw [hN, hR]
   by_cases h : 32 < runN false l
   ·simp only [if_pos h]
    exact ⟨0, [], 0, rfl⟩
   ·simp [if_neg h]
  ·rw [if_neg t1] at hN
   have t1' : isLow c = false := by simpa using t1
   by_cases t2 : isUp c = true
   ·rw [if_pos t2] at hN
    rw [t2] at hR
    simp only [Bool.or_true, if_true] at hR
    rw [hN, hR]
    by_cases h : 32 < runN true l
    ·simp only [if_pos h]
     exact ⟨0, [], 0, rfl⟩
    ·simp [if_neg h]
   ·rw [if_neg t2] at hN
    have t2' : isUp c = false := by simpa using t2
    rw [t1', t2'] at hR
    simp only [Bool.or_self, Bool.false_eq_true, if_false] at hR
    have hfig : figN l = minN l + ((l.drop (minN l)).takeWhile isDig).length := rfl
    have hmin : minN l = if c == 45 then 1 else 0 := by
     rw [← hl]; unfold minN; cases h : (c == 45) <;> simp [h]
    by_cases t3 : (isDig c || decide (c.toNat = 45)) = true
    ·rw [if_pos t3] at hN
     by_cases h1 : figN l = minN l
     ·
      have hr : figR l = 0 := by rw [figR, if_pos h1]
      have hc : c = 45 := by
       by_cases h45 : c = 45
       ·exact h45
       ·exfalso
        have hd : isDig c = true := by
         rcases Bool.or_eq_true_iff.1 t3 with h | h
         ·exact h
         ·exact absurd (UInt8.toNat_inj.1 (by have := of_decide_eq_true h; show c.toNat = 45; omega)) h45
        have : (c == 45) = false := by simpa using h45
        rw [this] at hmin
        have hm0 : minN l = 0 := hmin
        rw [hm0] at hfig h1
        rw [List.drop_zero, ← hl, List.takeWhile_cons, if_pos hd] at hfig
        rw [← hl] at h1
        simp at hfig
        omega
      have hm1 : minN l = 1 := by rw [hmin, hc]; rfl
      have hf1 : figN l = 1 := by rw [h1, hm1]
      have htk : l.take (figN l) = [45] := by rw [hf1, ← hl, hc]; rfl
      have he : figE (l.take (figN l)) = 8 := by rw [htk]; rfl
      rw [hr] at hR
      have h34 : ¬ c.toNat = 34 := by rw [hc]; decide
      have hsy : (symS l).1 = 0 := by
       rw [← hl, hc]
       have a1 : Lib.hasPrefix (45 :: r) [60, 33] = false := by simp [Lib.hasPrefix, List.isPrefixOf]
       have a2 : Lib.hasPrefix (45 :: r) [33, 62] = false := by simp [Lib.hasPrefix, List.isPrefixOf]
       unfold symS
       rw [a1, a2]
       rfl
      rw [if_neg (by omega), if_neg h34, hsy, if_neg (by omega)] at hR
      rw [hN]
      simp only [he]
      exact ⟨0, [], 0, hR⟩
     ·have hr : figR l = figN l := by rw [figR, if_neg h1]
      have hpos : 0 < figN l := by omega
      have hne : l.take (figN l) ≠ [45] := by
       intro e
       have hlen := congrArg List.length e
       rw [List.length_take] at hlen
       have := figN_le l
       have hf1 : figN l = 1 := by simp at hlen; omega
       have hc : c = 45 := by
        rw [hf1, ← hl] at e
        injection e
       rw [hc] at hmin
       have : minN l = 1 := hmin
       omega
      have he : figE (l.take (figN l)) = (numS (l.take (figN l))).2 := by rw [figE, if_neg hne]
      rw [hr, if_pos hpos] at hR
      rw [hN, hR]
      simp only [he]
      split
      ·rename_i h; rw [h]
      ·exact ⟨_, _, _, rfl⟩
    ·rw [if_neg t3] at hN
     have t3' : (isDig c || decide (c.toNat = 45)) = false := by simpa using t3
     have hd : isDig c = false := (Bool.or_eq_false_iff.1 t3').1
     have h45 : ¬ c.toNat = 45 := of_decide_eq_false (Bool.or_eq_false_iff.1 t3').2
     have hc45 : (c == 45) = false := by
      rw [beq_eq_false_iff_ne]
      intro e; rw [e] at h45; exact h45 rfl
     rw [hc45] at hmin
     have hm0 : minN l = 0 := hmin
     have hf0 : figN l = 0 := by
      rw [hfig, hm0, List.drop_zero, ← hl, List.takeWhile_cons, if_neg (by rw [hd]; simp)]
      rfl
     have hr : figR l = 0 := by rw [figR, if_pos (by rw [hf0, hm0])]
     rw [hr, if_neg (by omega)] at hR
     by_cases t4 : c.toNat = 34
     ·rw [if_pos t4] at hN hR
      rw [hN, hR]
      by_cases h : (quoN (l.drop 1)).2 = 0
      ·simp only [if_pos h]
       rw [show 1 + (quoN (l.drop 1)).1 + 1 = (quoN (l.drop 1)).1 + 2 by omega]
      ·simp only [if_neg h]
       exact ⟨0, [], 0, rfl⟩
     ·rw [if_neg t4] at hN hR
      rw [hN, hR]
      simp only
      have hsym : ((symS l).2 = 0 ∧ 0 < (symS l).1) ∨ ((symS l).2 = 8 ∧ (symS l).1 = 0) := by
       unfold symS
       split
       ·left; simp
       ·split
        ·left; simp
        ·right; simp
      rcases hsym with ⟨h1, h2⟩ | ⟨h1, h2⟩
      ·rw [if_pos h1, if_pos h2]
      ·rw [if_neg (by omega), if_neg (by omega), h1]
       exact ⟨0, [], 0, rfl⟩
noncomputable def gRun : List T → Option T := g2 tStr tBool fun s b => if s.size ≤ 65536 then some (iv (runN b s.data.toList : Int)) else none
theorem hRun : GOK Tryz.prog (G q) 50 gRun := g2_ok fun a b s c r ha hb hr => by
 have e1 : a = sv s := ha
 have e2 : b = bv c := hb
 subst e1; subst e2
 split at hr
 ·rename_i h; injection hr with hr; subst hr; exact rrun_call s c h
 ·cases hr
noncomputable def gFig : List T → Option T := g1 tStr fun s => if s.size ≤ 65536 ∧ 0 < s.size then some (iv (figR s.data.toList : Int)) else none
theorem hFig : GOK Tryz.prog (G q) 51 gFig := g1_ok fun a s r ha hr => by
 have e1 : a = sv s := ha
 subst e1
 split at hr
 ·rename_i h; injection hr with hr; subst hr; exact rfig_call s h.1 h.2
 ·cases hr
noncomputable def gQuo : List T → Option T := g1 tStr fun s => if s.size ≤ 65536 ∧ 0 < s.size then some (quoT s.data.toList) else none
theorem hQuo : GOK Tryz.prog (G q) 53 gQuo := g1_ok fun a s r ha hr => by
 have e1 : a = sv s := ha
 subst e1
 split at hr
 ·rename_i h; injection hr with hr; subst hr; exact rquo_call s h.1 h.2
 ·cases hr
noncomputable def gSym : List T → Option T := g1 tStr fun s => if s.size ≤ 65536 ∧ 0 < s.size then some (iv ((symS s.data.toList).1 : Int)) else none
theorem hSym : GOK Tryz.prog (G q) 54 gSym := g1_ok fun a s r ha hr => by
 have e1 : a = sv s := ha
 subst e1
 split at hr
 ·rename_i h; injection hr with hr; subst hr; exact rsym_call s h.1 h.2
 ·cases hr
noncomputable def gRNum : List T → Option T := g1 tStr fun s => if s.size ≤ 281474976710656 then some (numT s.data.toList) else none
theorem hRNum : GOK Tryz.prog (G q) 52 gRNum := g1_ok fun a s r ha hr => by
 have e1 : a = sv s := ha
 subst e1
 split at hr
 ·rename_i h; injection hr with hr; subst hr; exact rnumber_call s h
 ·cases hr
noncomputable def tbTk : Tbl := [(48, gChr isLow), (49, gChr isUp), (50, gRun), (51, gFig), (53, gQuo), (54, gSym), (52, gRNum)]
theorem ctxTk : Ctx Tryz.prog (G q) (orc tbTk) := (TblOK.cons (gChr_ok lower_call) (.cons (gChr_ok upper_call) (.cons hRun (.cons hFig (.cons hQuo (.cons hSym (.cons hRNum .nil))))))).ctx mixed
theorem bld2 {Φ : Oracle} {H : Heap} {nx : Nat} (k : Int) (t : ByteArray) : evalK Φ H nx (.build [(0, 1), (1, 1), (2, 1)] [.int .i64 0, .string ⟨#[]⟩, .int .i64 0] [0, 1]) [.t (iv k), .t (sv t)] = some (.t (.ag [iv k, sv t, iv 0]), H, nx) := rfl
theorem bldq2 {Φ : Oracle} {H : Heap} {nx : Nat} (k : Int) (t : ByteArray) : evalQ Φ H nx (.build [(0, 1), (1, 1), (2, 1)] [.int .i64 0, .string ⟨#[]⟩, .int .i64 0] [0, 1]) [.t (iv k), .t (sv t)] = some (.t (.ag [iv k, sv t, iv 0])) := rfl
theorem sto0 (k l : Int) (t : ByteArray) (x y z : PV) (R : Heap) : storeM 3 ((0, .cells 44 [x, y, z]) :: R) (.ptr 0 0) (.t (.ag [iv k, sv t, iv l])) = some ((0, .cells 44 [.t (iv k), .t (sv t), .t (iv l)]) :: R) := rfl
theorem ldt0 (k l : Int) (t : ByteArray) (R : Heap) : loadM true 3 ((0, .cells 44 [.t (iv k), .t (sv t), .t (iv l)]) :: R) (.ptr 0 0) = some (.t (.ag [iv k, sv t, iv l])) := rfl
set_option maxHeartbeats 2000000 in
theorem rtok_call (s : ByteArray) (hs : s.size ≤ 65536) (h0 : 0 < s.size) : CallT Tryz.prog (G q) 32 [sv s] (· = rtokT s.data.toList) := by
 have hlen : s.data.toList.length = s.size := rfl
 obtain ⟨l, hl⟩ : ∃ l, l = s.data.toList := ⟨_, rfl⟩
 rw [← hl] at hlen ⊢
 obtain ⟨c, r, hcr⟩ : ∃ c r, c :: r = l := by
  cases l with
  | nil => simp at hlen; omega
  | cons c r => exact ⟨c, r, rfl⟩
 have ix := index_str s 0 c (by rw [← hl, ← hcr]; rfl)
 simp only [Int.natCast_zero] at ix
 have hR := rtokT_cons hcr
 have q1 := gChr_eq isLow c
 have q2 := gChr_eq isUp c
 have q3 : ∀ b, gRun [.v (.string s), bv b] = some (iv (runN b l : Int)) := by intro b; rw [gRun, g2_eq (τ := tStr) (σ := tBool) (x := s) (y := b) rfl rfl, if_pos hs, hl]
 have q4 : gFig [.v (.string s)] = some (iv (figR l : Int)) := by rw [gFig, g1_eq (τ := tStr) (x := s) rfl, if_pos ⟨hs, h0⟩, hl]
 have q5 : gQuo [.v (.string s)] = some (quoT l) := by rw [gQuo, g1_eq (τ := tStr) (x := s) rfl, if_pos ⟨hs, h0⟩, hl]
 have q6 : gSym [.v (.string s)] = some (iv ((symS l).1 : Int)) := by rw [gSym, g1_eq (τ := tStr) (x := s) rfl, if_pos ⟨hs, h0⟩, hl]
 have slt : ∀ n : Nat, n ≤ l.length → slstrM (.t (sv s)) none (some (.t (iv (n : Int)))) = some (.t (sv (bs (l.take n)))) := by
  intro n hn
  rw [slstr_to s n (by omega)]
  have e3 : s.extract 0 n = bs (l.take n) := by
   rw [← bs_data (s.extract 0 n), Lib.extract_data, ← hl]; rfl
  rw [e3]
 refine k_r01_token.call rfl ?_
 refine mc_runs ctxTk ?_
 cases t1 : isLow c with
 | true =>
  rw [t1, low_not_up t1] at hR
  simp only [Bool.true_or, if_true, Bool.false_eq_true, if_false] at hR
  rw [t1] at q1
  rw [low_not_up t1] at q2
  have hrl := runN_le false l
  have sl := slt _ hrl
  have q3' := q3 false
  generalize runN false l = n at *
  by_cases h : 32 < n
  ·rw [if_pos h] at hR
   have h' : (32 : Int) < (n : Int) := by omega
   simp -implicitDefEqProofs [M_r01_token, ix, tbTk, q1, q2, q3', h', -evalK_build, bld0, sto0, ldt0, hR]
  ·rw [if_neg h] at hR
   have h' : ¬ (32 : Int) < (n : Int) := by omega
   simp -implicitDefEqProofs [M_r01_token, ix, tbTk, q1, q2, q3', h', sl, -evalK_build, bld2, sto0, ldt0, hR]
 | false =>
 rw [t1] at q1
 cases t2 : isUp c with
 | true =>
  rw [t1, t2] at hR
  simp only [Bool.or_true, if_true] at hR
  rw [t2] at q2
  have hrl := runN_le true l
  have sl := slt _ hrl
  have q3' := q3 true
  generalize runN true l = n at *
  by_cases h : 32 < n
  ·rw [if_pos h] at hR
   have h' : (32 : Int) < (n : Int) := by omega
   simp -implicitDefEqProofs [M_r01_token, ix, tbTk, q1, q2, q3', h', -evalK_build, bld0, sto0, ldt0, hR]
  ·rw [if_neg h] at hR
   have h' : ¬ (32 : Int) < (n : Int) := by omega
   simp -implicitDefEqProofs [M_r01_token, ix, tbTk, q1, q2, q3', h', sl, -evalK_build, bld2, sto0, ldt0, hR]
 | false =>
 rw [t2] at q2
 rw [t1, t2] at hR
 simp only [Bool.or_self, Bool.false_eq_true, if_false] at hR
 by_cases hf : 0 < figR l
 ·rw [if_pos hf] at hR
  have hfl : figR l ≤ l.length := by
   have := figN_le l
   unfold figR; split
   ·omega
   ·exact this
  have sl := slt _ hfl
  have gn : gRNum [.v (.string (bs (l.take (figR l))))] = some (numT (l.take (figR l))) := by
   rw [gRNum, g1_eq (τ := tStr) (x := bs (l.take (figR l))) rfl, if_pos (by show (l.take (figR l)).toArray.size ≤ _; simp; omega)]
  generalize l.take (figR l) = t at *
  generalize figR l = n at *
  have hf' : (0 : Int) < (n : Int) := by omega
  simp -implicitDefEqProofs [M_r01_token, ix, tbTk, q1, q2, q4, hf, sl, gn, extractV, numT, -evalK_build, bld2, sto0, ldt0, hR]
 ·rw [if_neg hf] at hR
  have hf0 : figR l = 0 := by omega
  rw [hf0] at q4
  have q4' : gFig [.v (.string s)] = some (iv 0) := q4
  by_cases h34 : c.toNat = 34
  ·rw [if_pos h34] at hR
   have b34 : ((c.toNat : Int) == 34) = true := by rw [h34]; rfl
   unfold quoT at q5
   obtain ⟨hq1, hq2, hq3⟩ := quoN_le (l.drop 1)
   rw [List.length_drop] at hq1 hq2
   obtain ⟨n, hn⟩ : ∃ n, n = (quoN (l.drop 1)).1 := ⟨_, rfl⟩
   obtain ⟨e, he⟩ : ∃ e, e = (quoN (l.drop 1)).2 := ⟨_, rfl⟩
   rw [← hn, ← he] at hR q5 hq2
   rw [← hn] at hq1
   by_cases h : e = 0
   ·rw [if_pos h] at hR q5
    obtain ⟨m, hm⟩ : ∃ m, m = n + 2 := ⟨_, rfl⟩
    obtain ⟨m1, hm1⟩ : ∃ m1, m1 = n + 1 := ⟨_, rfl⟩
    rw [← hm] at hR q5
    have hlt := hq2 h
    have e1 : IntKind.i64.wrap ((m : Int) - 1) = (m1 : Int) := by rw [wrap_i64 (by omega) (by omega)]; omega
    have sl : slstrM (.t (sv s)) (some (.t (.v (.int .i64 1)))) (some (.t (iv (m1 : Int)))) = some (.t (sv (bs ((l.drop 1).take n)))) := by
     have := slstr_nat s 1 m1 (by omega) (by omega)
     have e3 : s.extract 1 m1 = bs ((l.drop 1).take n) := by
      rw [← bs_data (s.extract 1 m1), Lib.extract_data, ← hl, hm1, Nat.add_sub_cancel]
     rw [e3] at this
     exact this
    simp -implicitDefEqProofs [M_r01_token, ix, tbTk, q1, q2, q4', b34, q5, extractV, e1, sl, -evalK_build, bld2, sto0, ldt0, hR]
   ·rw [if_neg h] at hR q5
    have hb : (e != 0) = true := by rw [bne_iff_ne]; exact h
    simp -implicitDefEqProofs [M_r01_token, ix, tbTk, q1, q2, q4', b34, q5, extractV, hb, -evalK_build, bld0, sto0, ldt0, hR]
  ·rw [if_neg h34] at hR
   have b34 : ((c.toNat : Int) == 34) = false := by rw [beq_eq_false_iff_ne]; omega
   have hsl : (symS l).1 ≤ l.length := by
    unfold symS
    split
    ·rename_i h
     rcases Bool.or_eq_true_iff.1 h with h | h
     ·have := (List.isPrefixOf_iff_prefix.1 h).length_le; simpa using this
     ·have := (List.isPrefixOf_iff_prefix.1 h).length_le; simpa using this
    ·split
     ·show 1 ≤ l.length; omega
     ·simp
   have sl := slt _ hsl
   generalize (symS l).1 = n at *
   by_cases hp : 0 < n
   ·rw [if_pos hp] at hR
    simp -implicitDefEqProofs [M_r01_token, ix, tbTk, q1, q2, q4', b34, q6, hp, sl, -evalK_build, -evalQ_build, bldq2, sto0, ldt0, hR]
   ·rw [if_neg hp] at hR
    have hn0 : n = 0 := by omega
    subst hn0
    have q6' : gSym [.v (.string s)] = some (iv 0) := q6
    simp -implicitDefEqProofs [M_r01_token, ix, tbTk, q1, q2, q4', b34, q6', -evalK_build, bld0, sto0, ldt0, hR]
noncomputable def gTok : List T → Option T := g1 tStr fun s => if s.size ≤ 65536 ∧ 0 < s.size then some (rtokT s.data.toList) else none
theorem hTok : GOK Tryz.prog (G q) 32 gTok := g1_ok fun a s r ha hr => by
 have e1 : a = sv s := ha
 subst e1
 split at hr
 ·rename_i h; injection hr with hr; subst hr; exact rtok_call s h.1 h.2
 ·cases hr
noncomputable def tbRs : Tbl := [(32, gTok)]
theorem ctxRs : Ctx Tryz.prog (G q) (orc tbRs) := (TblOK.cons hTok .nil).ctx mixed
structure RSc where
 f : Nat
 p : Nat
 ln : Nat
 cm : Bool
 out : List Tok
def scanC (f : Nat) (cm : Bool) (D : List UInt8) (l : Nat) : Except (Nat × Int) (List Tok) := scanG f (D.drop (skipS cm D).1) (l + (skipS cm D).2)
def SRs (s : ByteArray) (a : RSc) : AState := ⟨[(8, .t (iv (a.p : Int))), (7, .t (bv a.cm)), (6, .t (iv (a.ln : Int))), (5, rowP eTok 0 a.out), (0, .t (sv s))], rowH eTok 44 0 a.out, 1, 71⟩
structure OkRs (l : List UInt8) (R : Except (Nat × Int) (List Tok)) (a : RSc) : Prop where
 le : a.p ≤ l.length
 fu : l.length - a.p < a.f
 ln : a.ln ≤ a.p + 1
 ol : a.out.length ≤ a.p
 eq : ahead a.out (scanC a.f a.cm (l.drop a.p) a.ln) = R
theorem stp3 (k l : Int) (t : List UInt8) (x y z : PV) (R : Heap) : storeM 3 ((1, .cells 44 [x, y, z]) :: R) (.ptr 1 0) (.t (.ag (tkc k t l))) = some ((1, tkr k t l) :: R) := rfl
theorem stl1 (k l m : Int) (t : List UInt8) (R : Heap) : storeM 1 ((1, tkr k t l) :: R) (.ptr 1 2) (.t (iv m)) = some ((1, tkr k t m) :: R) := rfl
theorem ldt1 (k l : Int) (t : List UInt8) (R : Heap) : loadM true 3 ((1, tkr k t l) :: R) (.ptr 1 0) = some (.t (.ag (tkc k t l))) := rfl
theorem bst1 (k l : Int) (t : List UInt8) : bsliceM 44 3 [.int .i64 0, .string ⟨#[]⟩, .int .i64 0] 1 [(0, .t (.ag (tkc k t l)))] 2 = some (.row 2 0 1 3, .cells 44 [.t (iv k), .t (sv (bs t)), .t (iv l)]) := rfl
set_option maxHeartbeats 4000000 in
theorem rscan_call (s : ByteArray) (hlim : s.size ≤ lim) : CallT Tryz.prog (G q) 16 [sv s] (· = scanT s.data.toList) := by
 refine k_r01_Scan.call rfl ?_
 unfold M_r01_Scan
 obtain ⟨l, hl⟩ : ∃ l, l = s.data.toList := ⟨_, rfl⟩
 have hlen : l.length = s.size := by rw [hl]; rfl
 rw [← hl]
 by_cases hbig : 65536 < s.size
 ·have hb' : (65536 : Int) < (s.size : Int) := by omega
  have hT : scanT l = .tu [nilS, iv 0, iv 7] := by rw [scanT, if_pos (by omega)]
  refine mc_runs ctx0 ?_
  simp -implicitDefEqProofs [hb', hT]
 have hb' : ¬ (65536 : Int) < (s.size : Int) := by omega
 have hs : s.size ≤ 65536 := by omega
 have hT : scanT l = match scanS l 1 with
  | .error x => .tu [nilS, iv (x.1 : Int), iv x.2]
  | .ok ts => .tu [treeS eTok ts, iv 0, iv 0] := by rw [scanT, if_neg (by omega)] <;> cases scanS l 1 <;> rfl
 obtain ⟨R, hR⟩ : ∃ R, R = scanS l 1 := ⟨_, rfl⟩
 rw [← hR] at hT
 refine mc_seq_runs ctxRs ?_
 simp -implicitDefEqProofs
 refine mc_seq_runs ctxRs ?_
 simp -implicitDefEqProofs [hb']
 refine mc_seq_runs ctxRs ?_
 simp -implicitDefEqProofs
 refine mc_seq_runs ctxRs ?_
 simp -implicitDefEqProofs
 refine mc_seq_runs ctxRs ?_
 simp -implicitDefEqProofs
 refine mc_cut (α := RSc) (SRs s) (fun a => OkRs l R a ∧ a.p = s.size) (fun _ => rfl) ?_ ?_
 ·refine mc_seq_runs ctxRs ?_
  simp -implicitDefEqProofs
  refine mc_block ?_
  refine mc_while (SRs s) (fun a => s.size - a.p) (OkRs l R) ⟨l.length + 1, 0, 1, false, []⟩ (fun _ => rfl) ⟨Nat.zero_le _, by show l.length - 0 < l.length + 1; omega, Nat.le_refl _, by simp, ?_⟩ ?_ rfl ?_
  ·show ahead [] (scanC (l.length + 1) false (l.drop 0) 1) = R
   rw [ahead_nil, hR, List.drop_zero]; rfl
  ·exact sub_row0 (by omega) (by simp -implicitDefEqProofs [SRs, under, rowP])
  ·rintro ⟨f, p, ln, cm, out⟩ hok
   have hok' := hok
   obtain ⟨hp, hfu, hln, hol, heq⟩ := hok
   simp only at hp hfu hln hol heq
   have r0 : RowAt eTok 44 (rowH eTok 44 0 out) 0 out := RowAt.head' eTok 44 0 out
   refine mc_runs ctxRs ?_
   by_cases hlt : p < s.size
   ·obtain ⟨c, hc⟩ : ∃ c, l[p]? = some c := ⟨_, List.getElem?_eq_getElem (by omega)⟩
    have ix := index_str s p c (by rw [← hl]; exact hc)
    have hdrop : l.drop p = c :: l.drop (p + 1) := by
     have := List.drop_eq_getElem_cons (l := l) (i := p) (by omega)
     rw [this, (List.getElem?_eq_some_iff.1 hc).2]
    obtain ⟨p1, hp1⟩ : ∃ p1, p1 = p + 1 := ⟨_, rfl⟩
    rw [← hp1] at hdrop
    have e1 : IntKind.i64.wrap ((p : Int) + 1) = (p1 : Int) := by rw [hp1]; exact wrap_nat (by omega) (by omega)
    have hsk : skipS cm (l.drop p) = if c.toNat = 10 then ((skipS false (l.drop p1)).1 + 1, (skipS false (l.drop p1)).2 + 1)
      else if cm || decide (c.toNat = 37) then ((skipS true (l.drop p1)).1 + 1, (skipS true (l.drop p1)).2)
      else if c.toNat = 32 ∨ c.toNat = 9 ∨ c.toNat = 13 then ((skipS false (l.drop p1)).1 + 1, (skipS false (l.drop p1)).2)
      else (0, 0) := by rw [hdrop, skipS]
    have go : ∀ (ln' : Nat) (cm' : Bool), ln' ≤ ln + 1 → skipS cm (l.drop p) = ((skipS cm' (l.drop p1)).1 + 1, (ln' - ln) + (skipS cm' (l.drop p1)).2) → ln ≤ ln' → scanC f cm (l.drop p) ln = scanC f cm' (l.drop p1) ln' := by
     intro ln' cm' h1 h2 h3
     unfold scanC
     rw [h2]
     simp only
     rw [List.drop_drop, List.drop_drop, show p + ((skipS cm' (l.drop p1)).1 + 1) = p1 + (skipS cm' (l.drop p1)).1 by omega, show ln + ((ln' - ln) + (skipS cm' (l.drop p1)).2) = ln' + (skipS cm' (l.drop p1)).2 by omega]
    have nxt : ∀ (ln' : Nat) (cm' : Bool) (env : List (Nat × PV)), ln' ≤ ln + 1 → ln ≤ ln' → skipS cm (l.drop p) = ((skipS cm' (l.drop p1)).1 + 1, (ln' - ln) + (skipS cm' (l.drop p1)).2) →
      (∀ q ∈ (SRs s ⟨f, p1, ln', cm', out⟩).env, Abs.look env q.1 = some q.2) →
      Abs.Next Tryz.prog (G q) 0 (SRs s) (fun a' => OkRs l R a' ∧ s.size - a'.p < s.size - p) ⟨env, rowH eTok 44 0 out, 1, 71⟩ := by
     intro ln' cm' env h1 h2 h3 h4
     refine Abs.Next.mk ⟨f, p1, ln', cm', out⟩ ⟨⟨by show p1 ≤ _; omega, by show l.length - p1 < f; omega, by show ln' ≤ p1 + 1; omega, by show out.length ≤ p1; omega, ?_⟩, by show s.size - p1 < s.size - p; omega⟩ (sub_forget rfl rfl h4 fun q hq => ?_)
     ·show ahead out (scanC f cm' (l.drop p1) ln') = R
      rw [← go ln' cm' h1 h3 h2]; exact heq
     ·have : q ∈ rowH eTok 44 0 out := hq
      cases out with
      | nil => cases this
      | cons y r =>
       simp only [rowH, List.mem_singleton] at this
       subst this
       rfl
    have b10 : ((c.toNat : Int) == 10) = decide (c.toNat = 10) := by
     by_cases h : c.toNat = 10
     ·rw [h]; rfl
     ·rw [decide_eq_false h, beq_eq_false_iff_ne]; omega
    have b37 : ((c.toNat : Int) == 37) = decide (c.toNat = 37) := by
     by_cases h : c.toNat = 37
     ·rw [h]; rfl
     ·rw [decide_eq_false h, beq_eq_false_iff_ne]; omega
    by_cases h10 : c.toNat = 10
    ·rw [if_pos h10] at hsk
     rw [decide_eq_true h10] at b10
     obtain ⟨ln1, hln1⟩ : ∃ ln1, ln1 = ln + 1 := ⟨_, rfl⟩
     have e2 : IntKind.i64.wrap ((ln : Int) + 1) = (ln1 : Int) := by rw [hln1]; exact wrap_nat (by omega) (by omega)
     simp -implicitDefEqProofs [SRs, hlt, ix, b10, e1, e2]
     exact nxt ln1 false _ (by omega) (by omega) (by rw [hsk, hln1, Nat.add_sub_cancel_left, Nat.add_comm 1]) (by simp -implicitDefEqProofs [SRs])
    ·rw [if_neg h10] at hsk
     rw [decide_eq_false h10] at b10
     have same : ∀ cm', skipS cm (l.drop p) = ((skipS cm' (l.drop p1)).1 + 1, (skipS cm' (l.drop p1)).2) → skipS cm (l.drop p) = ((skipS cm' (l.drop p1)).1 + 1, (ln - ln) + (skipS cm' (l.drop p1)).2) := by
      intro cm' h; rw [h, Nat.sub_self, Nat.zero_add]
     cases hcm : cm with
     | true =>
      rw [hcm] at hsk
      simp only [Bool.true_or, if_true] at hsk
      subst hcm
      simp -implicitDefEqProofs [SRs, hlt, ix, b10, e1]
      exact nxt ln true _ (by omega) (by omega) (same true hsk) (by simp -implicitDefEqProofs [SRs])
     | false =>
      subst hcm
      by_cases h37 : c.toNat = 37
      ·rw [decide_eq_true h37] at b37 hsk
       simp only [Bool.or_true, if_true] at hsk
       simp -implicitDefEqProofs [SRs, hlt, ix, b10, b37, e1]
       exact nxt ln true _ (by omega) (by omega) (same true hsk) (by simp -implicitDefEqProofs [SRs])
      ·rw [decide_eq_false h37] at b37 hsk
       simp only [Bool.or_false, Bool.false_eq_true, if_false] at hsk
       by_cases h32 : c.toNat = 32
       ·rw [if_pos (.inl h32)] at hsk
        have b32 : ((c.toNat : Int) == 32) = true := by rw [h32]; rfl
        simp -implicitDefEqProofs [SRs, hlt, ix, b10, b37, b32, e1]
        exact nxt ln false _ (by omega) (by omega) (same false hsk) (by simp -implicitDefEqProofs [SRs])
       ·have b32 : ((c.toNat : Int) == 32) = false := by rw [beq_eq_false_iff_ne]; omega
        by_cases h9 : c.toNat = 9
        ·rw [if_pos (.inr (.inl h9))] at hsk
         have b9 : ((c.toNat : Int) == 9) = true := by rw [h9]; rfl
         simp -implicitDefEqProofs [SRs, hlt, ix, b10, b37, b32, b9, e1]
         exact nxt ln false _ (by omega) (by omega) (same false hsk) (by simp -implicitDefEqProofs [SRs])
        ·have b9 : ((c.toNat : Int) == 9) = false := by rw [beq_eq_false_iff_ne]; omega
         by_cases h13 : c.toNat = 13
         ·rw [if_pos (.inr (.inr h13))] at hsk
          have b13 : ((c.toNat : Int) == 13) = true := by rw [h13]; rfl
          simp -implicitDefEqProofs [SRs, hlt, ix, b10, b37, b32, b9, b13, e1]
          exact nxt ln false _ (by omega) (by omega) (same false hsk) (by simp -implicitDefEqProofs [SRs])
         ·have b13 : ((c.toNat : Int) == 13) = false := by rw [beq_eq_false_iff_ne]; omega
          rw [if_neg (by omega)] at hsk
          -- a token
          have heq2 : ahead out (scanG f (l.drop p) ln) = R := by
           rw [← heq]; unfold scanC; rw [hsk]; rfl
          obtain ⟨D, hD⟩ : ∃ D, D = l.drop p := ⟨_, rfl⟩
          have hDl : D.length = l.length - p := by rw [hD, List.length_drop]
          have hDe : D.isEmpty = false := by rw [hD, hdrop]; rfl
          have hsl := slstr_from s p (by omega)
          have hxd : (s.extract p s.size).data.toList = D := by
           rw [Lib.extract_data, ← hl, ← hD]; exact List.take_of_length_le (by omega)
          have hxs : (s.extract p s.size).size = D.length := by rw [← hxd]; rfl
          have gt : gTok [.v (.string (s.extract p s.size))] = some (rtokT D) := by
           rw [gTok, g1_eq (τ := tStr) (x := s.extract p s.size) rfl, if_pos ⟨by omega, by omega⟩, hxd]
          have hrn := rtok_next D hDe
          have hpos := next_pos D hDe
          rw [← hD] at heq2
          obtain ⟨f', rfl⟩ : ∃ f', f = f' + 1 := ⟨f - 1, by omega⟩
          rw [scanG, hDe] at heq2
          simp only [Bool.false_eq_true, if_false] at heq2
          obtain ⟨k, hk⟩ : ∃ k, k = (nextS D).k := ⟨_, rfl⟩
          obtain ⟨t, ht⟩ : ∃ t, t = (nextS D).t := ⟨_, rfl⟩
          obtain ⟨e, he⟩ : ∃ e, e = (nextS D).e := ⟨_, rfl⟩
          obtain ⟨n, hnn⟩ : ∃ n, n = (nextS D).n := ⟨_, rfl⟩
          rw [← he, ← hnn] at hpos
          rw [← hk, ← ht, ← he, ← hnn] at heq2 hrn
          by_cases he0 : e = 0
          ·rw [if_pos he0] at hrn
           rw [hrn] at gt
           obtain ⟨hn1, hn2⟩ := hpos he0
           rw [if_neg (by simpa using he0)] at heq2
           obtain ⟨p2, hp2⟩ : ∃ p2, p2 = p + n := ⟨_, rfl⟩
           have e3 : IntKind.i64.wrap ((p : Int) + (n : Int)) = (p2 : Int) := by rw [wrap_i64 (by omega) (by omega)]; omega
           have hdd : D.drop n = l.drop p2 := by rw [hD, List.drop_drop, hp2]
           rw [hdd] at heq2
           have r0' : RowAt eTok 44 ((2, .cells 44 [.t (iv k), .t (sv (bs t)), .t (iv (ln : Int))]) :: (1, tkr k t ln) :: rowH eTok 44 0 out) 0 out := (r0.cons (k := 1) (by omega)).cons (k := 2) (by omega)
           obtain ⟨b2, H2, n2, ap2, r2, ne2, hle2, hold, hb2⟩ := app_some (e := eTok) (ty := 44) (by' := 32) (nx := 3) (m := [⟨k, t, ln⟩]) r0' (src_one (e := eTok) (b := 2) (ty := 44) ⟨k, t, ln⟩ rfl) (by simp; omega) (by simp; omega)
           have ap2' : appM 44 3 32 ((2, .cells 44 [.t (iv k), .t (sv (bs t)), .t (iv (ln : Int))]) :: (1, tkr k t ln) :: rowH eTok 44 0 out) 3 (rowP eTok 0 out) (.row 2 0 1 3) = some (rowP eTok b2 (out ++ [⟨k, t, ln⟩]), H2, n2) := ap2
           simp -implicitDefEqProofs [SRs, hlt, ix, b10, b37, b32, b9, b13, hsl, tbRs, gt, extractV, stp3, stl1, ldt1, bst1, ap2', e3]
           refine Abs.Next.mk ⟨f', p2, ln, false, out ++ [⟨k, t, ln⟩]⟩ ⟨⟨by show p2 ≤ _; omega, by show l.length - p2 < f'; omega, by show ln ≤ p2 + 1; omega, by simp; omega, ?_⟩, by show s.size - p2 < s.size - p; omega⟩ ?_
           ·show ahead (out ++ [⟨k, t, ln⟩]) (scanC f' false (l.drop p2) ln) = R
            rw [← heq2]
            unfold scanC
            cases scanG f' ((l.drop p2).drop (skipS false (l.drop p2)).1) (ln + (skipS false (l.drop p2)).2) with
            | error x => rfl
            | ok ts => show Except.ok _ = Except.ok _; simp
           ·unfold SRs
            exact sub_row1 (k := b2) r2 (by omega) (by omega) (by simp -implicitDefEqProofs [ren_rowP, under_rowP, ren, under])
          ·rw [if_neg he0] at hrn
           obtain ⟨k', t', n', hrn⟩ := hrn
           rw [hrn] at gt
           have hRe : R = .error (ln, e) := by rw [← heq2, if_pos he0]; rfl
           rw [hRe] at hT
           simp only at hT
           have hb : (e != 0) = true := by rw [bne_iff_ne]; exact he0
           simp -implicitDefEqProofs [SRs, hlt, ix, b10, b37, b32, b9, b13, hsl, tbRs, gt, extractV, stp3, hb, hT]
   ·have hps : p = s.size := by omega
    subst hps
    simp -implicitDefEqProofs [SRs]
    refine Abs.Next.mk ⟨f, s.size, ln, cm, out⟩ ⟨hok', rfl⟩ ?_
    exact sub_row1 (k := 0) r0 (by omega) (by omega) (by simp -implicitDefEqProofs [ren_rowP, under_rowP, ren, under])
 rintro ⟨f, p, ln, cm, out⟩ ⟨hok, hps⟩
 obtain ⟨hp, hfu, hln, hol, heq⟩ := hok
 simp only at hp hfu hln hol heq hps
 subst hps
 have r0 : RowAt eTok 44 (rowH eTok 44 0 out) 0 out := RowAt.head' eTok 44 0 out
 have hd0 : l.drop s.size = [] := List.drop_eq_nil_of_le (by omega)
 have hRo : R = .ok out := by
  rw [← heq, hd0]
  show ahead out (scanG f ([].drop (skipS cm []).1) (ln + (skipS cm []).2)) = _
  cases f with
  | zero => show Except.ok (out ++ []) = _; rw [List.append_nil]
  | succ f => rw [scanG]; show Except.ok (out ++ []) = _; rw [List.append_nil]
 rw [hRo] at hT
 simp only at hT
 have ht := toT_tu3 r0 (iv 0) (iv 0)
 refine mc_runs ctxRs ?_
 simp -implicitDefEqProofs [SRs, hT, -oneOf, ht]
def Sep (X : List UInt8) : Prop := ∀ c r, X = c :: r → c.toNat = 32 ∨ c.toNat = 10 ∨ c.toNat = 9
theorem tw_sep {p : UInt8 → Bool} (hp : ∀ c : UInt8, c.toNat = 32 ∨ c.toNat = 10 ∨ c.toNat = 9 → p c = false) {X : List UInt8} (h : Sep X) : ∀ D : List UInt8, (D ++ X).takeWhile p = D.takeWhile p
 | [] => by
  cases X with
  | nil => rfl
  | cons c r => rw [List.nil_append, List.takeWhile_cons, if_neg (by rw [hp c (h c r rfl)]; simp)]; rfl
 | c :: D => by
  rw [List.cons_append, List.takeWhile_cons, List.takeWhile_cons, tw_sep hp h D]
theorem tw_take {p : UInt8 → Bool} : ∀ D : List UInt8, (D.take (D.takeWhile p).length).takeWhile p = D.takeWhile p
 | [] => rfl
 | c :: D => by
  by_cases h : p c = true
  ·rw [List.takeWhile_cons, if_pos h, List.length_cons, List.take_succ_cons, List.takeWhile_cons, if_pos h, tw_take D]
  ·rw [List.takeWhile_cons, if_neg h]; rfl
theorem tw_mem {p : UInt8 → Bool} : ∀ {D : List UInt8} {c : UInt8}, c ∈ D.takeWhile p → p c = true
 | [], c, h => by simp at h
 | x :: D, c, h => by
  rw [List.takeWhile_cons] at h
  split at h
  ·rename_i hx
   rcases List.mem_cons.1 h with e | e
   ·rw [e]; exact hx
   ·exact tw_mem e
  ·simp at h
theorem tw_eq_take {p : UInt8 → Bool} : ∀ D : List UInt8, D.take (D.takeWhile p).length = D.takeWhile p
 | [] => rfl
 | c :: D => by
  by_cases h : p c = true
  ·rw [List.takeWhile_cons, if_pos h, List.length_cons, List.take_succ_cons, tw_eq_take D]
  ·rw [List.takeWhile_cons, if_neg h]; rfl
theorem part_sep (big : Bool) (c : UInt8) (h : c.toNat = 32 ∨ c.toNat = 10 ∨ c.toNat = 9) : isPart big c = false := by
 unfold isPart isDig isUp isLow
 rcases h with h | h | h <;> rw [h] <;> cases big <;> rfl
theorem dig_sep (c : UInt8) (h : c.toNat = 32 ∨ c.toNat = 10 ∨ c.toNat = 9) : isDig c = false := by
 unfold isDig
 rcases h with h | h | h <;> rw [h] <;> rfl
theorem run_app (big : Bool) (D : List UInt8) {X : List UInt8} (h : Sep X) : runN big (D ++ X) = runN big D := by
 unfold runN; rw [tw_sep (part_sep big) h]
theorem run_take (big : Bool) (D : List UInt8) : runN big (D.take (runN big D)) = runN big D := by
 unfold runN; rw [tw_take]
theorem min_app (c : UInt8) (r X : List UInt8) : minN (c :: r ++ X) = minN (c :: r) := rfl
theorem min_le (c : UInt8) (r : List UInt8) : minN (c :: r) ≤ 1 := by unfold minN; split <;> omega
theorem fig_app (c : UInt8) (r : List UInt8) {X : List UInt8} (h : Sep X) : figN (c :: r ++ X) = figN (c :: r) := by
 unfold figN
 rw [min_app, List.drop_append_of_le_length (by have := min_le c r; simp; omega), tw_sep dig_sep h]
theorem fig_take (c : UInt8) (r : List UInt8) (h1 : 1 ≤ figN (c :: r)) : figN ((c :: r).take (figN (c :: r))) = figN (c :: r) := by
 obtain ⟨n, hn⟩ : ∃ n, figN (c :: r) = n + 1 := ⟨figN (c :: r) - 1, by omega⟩
 have hm : minN ((c :: r).take (figN (c :: r))) = minN (c :: r) := by rw [hn]; rfl
 have key : ((c :: r).take (figN (c :: r))).drop (minN (c :: r)) = ((c :: r).drop (minN (c :: r))).take (((c :: r).drop (minN (c :: r))).takeWhile isDig).length := by
  rw [List.drop_take]
  congr 1
  unfold figN
  omega
 have : figN ((c :: r).take (figN (c :: r))) = minN (c :: r) + (((c :: r).drop (minN (c :: r))).takeWhile isDig).length := by
  rw [figN, hm, key, tw_take]
 rw [this]; rfl
theorem quo_app : ∀ (D X : List UInt8), (quoN D).2 = 0 → quoN (D ++ X) = quoN D
 | [], X, h => by cases h
 | c :: D, X, h => by
  rw [List.cons_append]
  rw [quoN] at h ⊢
  rw [quoN]
  by_cases h1 : c.toNat = 34
  ·rw [if_pos h1, if_pos h1]
  ·rw [if_neg h1] at h ⊢
   rw [if_neg h1]
   by_cases h2 : prt c = true
   ·rw [if_pos h2] at h ⊢
    rw [if_pos h2, quo_app D X h]
   ·rw [if_neg h2] at h; cases h
theorem quo_take : ∀ D : List UInt8, (quoN D).2 = 0 → quoN (D.take ((quoN D).1 + 1)) = quoN D
 | [], h => by cases h
 | c :: D, h => by
  rw [quoN] at h
  by_cases h1 : c.toNat = 34
  ·rw [quoN, if_pos h1, List.take_succ_cons, quoN, if_pos h1]
  ·rw [if_neg h1] at h
   by_cases h2 : prt c = true
   ·rw [if_pos h2] at h
    rw [quoN, if_neg h1, if_pos h2, List.take_succ_cons, quoN, if_neg h1, if_pos h2, quo_take D h]
   ·rw [if_neg h2] at h; cases h
theorem quo_end : ∀ D : List UInt8, (quoN D).2 = 0 → D.take ((quoN D).1 + 1) = D.take (quoN D).1 ++ [34]
 | [], h => by cases h
 | c :: D, h => by
  rw [quoN] at h
  by_cases h1 : c.toNat = 34
  ·have : c = 34 := UInt8.toNat_inj.1 h1
   rw [quoN, if_pos h1, this]; rfl
  ·rw [if_neg h1] at h
   by_cases h2 : prt c = true
   ·rw [if_pos h2] at h
    rw [quoN, if_neg h1, if_pos h2, List.take_succ_cons, List.take_succ_cons, quo_end D h]; rfl
   ·rw [if_neg h2] at h; cases h
theorem pre_two (a b c d : UInt8) (r : List UInt8) : Lib.hasPrefix (c :: d :: r) [a, b] = ((a == c) && (b == d)) := by
 simp [Lib.hasPrefix, List.isPrefixOf]
theorem pre_one (a b c : UInt8) : Lib.hasPrefix [c] [a, b] = false := by
 simp [Lib.hasPrefix, List.isPrefixOf]
theorem sym_two (c d : UInt8) (r : List UInt8) : symS (c :: d :: r) = if ((60 == c) && (33 == d)) || ((33 == c) && (62 == d)) then (2, 0) else if symC.contains c then (1, 0) else (0, 8) := by
 unfold symS
 rw [pre_two, pre_two]
 rfl
theorem sym_one (c : UInt8) : symS [c] = if symC.contains c then (1, 0) else (0, 8) := by
 unfold symS
 rw [pre_one, pre_one]
 rfl
theorem sym_app (c : UInt8) (r : List UInt8) {X : List UInt8} (h : Sep X) : symS (c :: r ++ X) = symS (c :: r) := by
 cases r with
 | nil =>
  cases X with
  | nil => rfl
  | cons x X =>
   have hx := h x X rfl
   have e : [c] ++ x :: X = c :: x :: X := rfl
   rw [e, sym_two, sym_one]
   have h1 : (33 == x) = false := by rw [beq_eq_false_iff_ne]; intro e; subst e; rcases hx with h | h | h <;> revert h <;> decide
   have h2 : (62 == x) = false := by rw [beq_eq_false_iff_ne]; intro e; subst e; rcases hx with h | h | h <;> revert h <;> decide
   rw [h1, h2]
   simp
 | cons d r =>
  have e : c :: d :: r ++ X = c :: d :: (r ++ X) := rfl
  rw [e, sym_two, sym_two]
theorem sym_take (c : UInt8) (r : List UInt8) (h : (symS (c :: r)).2 = 0) : symS ((c :: r).take (symS (c :: r)).1) = symS (c :: r) := by
 cases r with
 | nil =>
  rw [sym_one] at h ⊢
  split at h
  ·rename_i hc
   rw [if_pos hc, List.take_succ_cons, List.take_zero, sym_one, if_pos hc]
  ·cases h
 | cons d r =>
  rw [sym_two] at h ⊢
  split at h
  ·rename_i hc
   rw [if_pos hc, List.take_succ_cons, List.take_succ_cons, List.take_zero, sym_two, if_pos hc]
  ·rename_i hc
   rw [if_neg hc]
   split at h
   ·rename_i hd
    rw [if_pos hd, List.take_succ_cons, List.take_zero, sym_one, if_pos hd]
   ·cases h
theorem next_app (c : UInt8) (r : List UInt8) {X : List UInt8} (h : Sep X) (he : (nextS (c :: r)).e = 0) : nextS (c :: r ++ X) = nextS (c :: r) := by
 have hcons : c :: r ++ X = c :: (r ++ X) := rfl
 rw [nextS] at he
 have hL : nextS (c :: r ++ X) = if isLow c then ⟨1, (c :: r ++ X).take (runN false (c :: r ++ X)), if 32 < runN false (c :: r ++ X) then 7 else 0, runN false (c :: r ++ X)⟩
  else if isUp c then ⟨2, (c :: r ++ X).take (runN true (c :: r ++ X)), if 32 < runN true (c :: r ++ X) then 7 else 0, runN true (c :: r ++ X)⟩
  else if isDig c || decide (c.toNat = 45) then ⟨4, (c :: r ++ X).take (figN (c :: r ++ X)), figE ((c :: r ++ X).take (figN (c :: r ++ X))), figN (c :: r ++ X)⟩
  else if c.toNat = 34 then ⟨3, (r ++ X).take (quoN (r ++ X)).1, (quoN (r ++ X)).2, 1 + (quoN (r ++ X)).1 + (if (quoN (r ++ X)).2 = 0 then 1 else 0)⟩
  else ⟨5, (c :: r ++ X).take (symS (c :: r ++ X)).1, (symS (c :: r ++ X)).2, (symS (c :: r ++ X)).1⟩ := by
  rw [hcons, nextS]; rfl
 rw [hL, nextS]
 split
 ·rename_i t1
  rw [run_app false _ h, List.take_append_of_le_length (runN_le _ _)]
 ·rename_i t1
  rw [if_neg t1] at he
  split
  ·rename_i t2
   rw [run_app true _ h, List.take_append_of_le_length (runN_le _ _)]
  ·rename_i t2
   rw [if_neg t2] at he
   split
   ·rename_i t3
    rw [fig_app c r h, List.take_append_of_le_length (figN_le _)]
   ·rename_i t3
    rw [if_neg t3] at he
    split
    ·rename_i t4
     rw [if_pos t4] at he
     have he' : (quoN r).2 = 0 := he
     have hq := quoN_le r
     rw [quo_app r X he', List.take_append_of_le_length hq.1]
     rfl
    ·rename_i t4
     rw [if_neg t4] at he
     rw [sym_app c r h, List.take_append_of_le_length]
     have := (next_pos (c :: r) rfl (by rw [nextS, if_neg t1, if_neg t2, if_neg t3, if_neg t4]; exact he)).2
     rw [nextS, if_neg t1, if_neg t2, if_neg t3, if_neg t4] at this
     exact this
theorem next_take (c : UInt8) (r : List UInt8) (he : (nextS (c :: r)).e = 0) : nextS ((c :: r).take (nextS (c :: r)).n) = nextS (c :: r) := by
 obtain ⟨n1, n2⟩ := next_pos (c :: r) rfl he
 obtain ⟨n, hn⟩ : ∃ n, (nextS (c :: r)).n = n + 1 := ⟨(nextS (c :: r)).n - 1, by omega⟩
 have ht : (c :: r).take (nextS (c :: r)).n = c :: r.take n := by rw [hn]; rfl
 rw [ht]
 obtain ⟨D, hD⟩ : ∃ D, D = c :: r := ⟨_, rfl⟩
 have hD' : c :: r.take n = D.take (n + 1) := by rw [hD]; rfl
 have hL : nextS (c :: r.take n) = if isLow c then ⟨1, (D.take (n + 1)).take (runN false (D.take (n + 1))), if 32 < runN false (D.take (n + 1)) then 7 else 0, runN false (D.take (n + 1))⟩
  else if isUp c then ⟨2, (D.take (n + 1)).take (runN true (D.take (n + 1))), if 32 < runN true (D.take (n + 1)) then 7 else 0, runN true (D.take (n + 1))⟩
  else if isDig c || decide (c.toNat = 45) then ⟨4, (D.take (n + 1)).take (figN (D.take (n + 1))), figE ((D.take (n + 1)).take (figN (D.take (n + 1)))), figN (D.take (n + 1))⟩
  else if c.toNat = 34 then ⟨3, (r.take n).take (quoN (r.take n)).1, (quoN (r.take n)).2, 1 + (quoN (r.take n)).1 + (if (quoN (r.take n)).2 = 0 then 1 else 0)⟩
  else ⟨5, (D.take (n + 1)).take (symS (D.take (n + 1))).1, (symS (D.take (n + 1))).2, (symS (D.take (n + 1))).1⟩ := by
  rw [nextS, ← hD']; rfl
 have hR : nextS (c :: r) = if isLow c then ⟨1, D.take (runN false D), if 32 < runN false D then 7 else 0, runN false D⟩
  else if isUp c then ⟨2, D.take (runN true D), if 32 < runN true D then 7 else 0, runN true D⟩
  else if isDig c || decide (c.toNat = 45) then ⟨4, D.take (figN D), figE (D.take (figN D)), figN D⟩
  else if c.toNat = 34 then ⟨3, r.take (quoN r).1, (quoN r).2, 1 + (quoN r).1 + (if (quoN r).2 = 0 then 1 else 0)⟩
  else ⟨5, D.take (symS D).1, (symS D).2, (symS D).1⟩ := by
  rw [nextS, hD]; rfl
 rw [hR] at he hn ⊢
 rw [hL]
 split
 ·rename_i t1
  rw [if_pos t1] at he hn
  have hn' : runN false D = n + 1 := hn
  rw [← hn', run_take, List.take_take, Nat.min_self]
 ·rename_i t1
  rw [if_neg t1] at he hn
  split
  ·rename_i t2
   rw [if_pos t2] at he hn
   have hn' : runN true D = n + 1 := hn
   rw [← hn', run_take, List.take_take, Nat.min_self]
  ·rename_i t2
   rw [if_neg t2] at he hn
   split
   ·rename_i t3
    rw [if_pos t3] at he hn
    have hn' : figN D = n + 1 := hn
    have hf : figN (D.take (figN D)) = figN D := by rw [hD]; exact fig_take c r (by rw [← hD]; omega)
    rw [← hn', hf, List.take_take, Nat.min_self]
   ·rename_i t3
    rw [if_neg t3] at he hn
    split
    ·rename_i t4
     rw [if_pos t4] at he hn
     have he' : (quoN r).2 = 0 := he
     simp only [he', if_true] at hn
     have hn' : n = (quoN r).1 + 1 := by omega
     have hq := quo_take r he'
     rw [hn', hq, List.take_take, Nat.min_eq_left (by omega)]
    ·rename_i t4
     rw [if_neg t4] at he hn
     have hn' : (symS D).1 = n + 1 := hn
     have hf : symS (D.take (symS D).1) = symS D := by rw [hD] at he ⊢; exact sym_take c r he
     rw [← hn', hf, List.take_take, Nat.min_self]
def wr (k : Int) (t : List UInt8) : List UInt8 := if k = 3 then 34 :: t ++ [34] else t
theorem next_wr (c : UInt8) (r : List UInt8) (he : (nextS (c :: r)).e = 0) : wr (nextS (c :: r)).k (nextS (c :: r)).t = (c :: r).take (nextS (c :: r)).n := by
 rw [nextS] at he ⊢
 split
 ·rw [wr, if_neg (by simp)]
 ·rename_i t1
  rw [if_neg t1] at he
  split
  ·rw [wr, if_neg (by simp)]
  ·rename_i t2
   rw [if_neg t2] at he
   split
   ·rw [wr, if_neg (by simp)]
   ·rename_i t3
    rw [if_neg t3] at he
    split
    ·rename_i t4
     rw [if_pos t4] at he
     have he' : (quoN r).2 = 0 := he
     have hc : c = 34 := UInt8.toNat_inj.1 t4
     have e1 : (c :: r).drop 1 = r := rfl
     rw [wr, if_pos rfl]
     simp only [e1, he', if_true]
     rw [show 1 + (quoN r).1 + 1 = ((quoN r).1 + 1) + 1 by omega, List.take_succ_cons, quo_end r he', hc]; rfl
    ·rw [wr, if_neg (by simp)]
theorem next_head (c : UInt8) (r : List UInt8) (he : (nextS (c :: r)).e = 0) : skipS false (c :: r) = (0, 0) := by
 have key : ∀ k : UInt8, (k = 10 ∨ k = 37 ∨ k = 32 ∨ k = 9 ∨ k = 13) → (nextS (k :: r)).e = 8 := by
  intro k hk
  have h1 : isLow k = false := by rcases hk with h | h | h | h | h <;> subst h <;> decide
  have h2 : isUp k = false := by rcases hk with h | h | h | h | h <;> subst h <;> decide
  have h3 : (isDig k || decide (k.toNat = 45)) = false := by rcases hk with h | h | h | h | h <;> subst h <;> decide
  have h4 : ¬ k.toNat = 34 := by rcases hk with h | h | h | h | h <;> subst h <;> decide
  rw [nextS, if_neg (by rw [h1]; simp), if_neg (by rw [h2]; simp), if_neg (by rw [h3]; simp), if_neg h4]
  show (symS (k :: r)).2 = 8
  have h5 : symC.contains k = false := by rcases hk with h | h | h | h | h <;> subst h <;> decide
  have h6 : (60 == k) = false := by rcases hk with h | h | h | h | h <;> subst h <;> decide
  have h7 : (33 == k) = false := by rcases hk with h | h | h | h | h <;> subst h <;> decide
  cases r with
  | nil => rw [sym_one, h5]; rfl
  | cons d r => rw [sym_two, h5, h6, h7]; rfl
 have no : ∀ k : UInt8, (k = 10 ∨ k = 37 ∨ k = 32 ∨ k = 9 ∨ k = 13) → c.toNat ≠ k.toNat := by
  intro k hk e
  have : c = k := UInt8.toNat_inj.1 e
  subst this
  rw [key c hk] at he
  cases he
 have n10 := no 10 (by simp)
 have n37 := no 37 (by simp)
 have n32 := no 32 (by simp)
 have n9 := no 9 (by simp)
 have n13 := no 13 (by simp)
 have a1 : ¬ c.toNat = 10 := n10
 have a2 : ¬ c.toNat = 37 := n37
 have a3 : ¬ c.toNat = 32 := n32
 have a4 : ¬ c.toNat = 9 := n9
 have a5 : ¬ c.toNat = 13 := n13
 rw [skipS, if_neg a1, if_neg (by simp [a2]), if_neg (by omega)]
def nl (l : List UInt8) : Nat := l.countP fun c => c.toNat == 10
end Go.Proofs.YtjkkgbdoeaihmaaGreatDoor
