/-
 Auxiliary facts. No statement of the program stands here.
-/
import Derived.Test.YtjkkgbdoeaihmaaGreatDoorUD2Q29
namespace Go.Proofs.YtjkkgbdoeaihmaaGreatDoor
set_option linter.unusedSimpArgs false
set_option linter.unusedVariables false
open Go Go.Abs
variable {q : Gl}
abbrev tokR (k : Int) (t : List UInt8) (n : Nat) (e : Int) : T := .tu [.ag (tkc k t 0), iv (n : Int), iv e]
def D2u (l : List UInt8) : T :=
 match l with
 | [] => tokR 0 [] 0 8
 | c :: _ =>
  if A3n c || isUp c then (if 32 < runN (isUp c) l then tokR 0 [] 0 7 else tokR (if isUp c then 2 else 1) (l.take (runN (isUp c) l)) (runN (isUp c) l) 0)
  else if 0 < figR l then tokR 4 (l.take (figR l)) (figR l) (numS (l.take (figR l))).2
  else if c.toNat = 34 then (if (quoN (l.drop 1)).2 = 0 then tokR 3 ((l.drop 1).take (quoN (l.drop 1)).1) ((quoN (l.drop 1)).1 + 2) 0 else tokR 0 [] 0 (quoN (l.drop 1)).2)
  else if 0 < (symS l).1 then tokR 5 (l.take (symS l).1) (symS l).1 0 else tokR 0 [] 0 8
theorem D2v {c : UInt8} {r l : List UInt8} (h : c :: r = l) : A2c l =
  if A3n c then ⟨1, l.take (runN false l), if 32 < runN false l then 7 else 0, runN false l⟩
  else if isUp c then ⟨2, l.take (runN true l), if 32 < runN true l then 7 else 0, runN true l⟩
  else if A1f c || decide (c.toNat = 45) then ⟨4, l.take (figN l), figE (l.take (figN l)), figN l⟩
  else if c.toNat = 34 then ⟨3, (l.drop 1).take (quoN (l.drop 1)).1, (quoN (l.drop 1)).2, 1 + (quoN (l.drop 1)).1 + (if (quoN (l.drop 1)).2 = 0 then 1 else 0)⟩
  else ⟨5, l.take (symS l).1, (symS l).2, (symS l).1⟩ := by subst h; rfl
theorem C0h {c : UInt8} {r l : List UInt8} (h : c :: r = l) : D2u l =
  if A3n c || isUp c then (if 32 < runN (isUp c) l then tokR 0 [] 0 7 else tokR (if isUp c then 2 else 1) (l.take (runN (isUp c) l)) (runN (isUp c) l) 0)
  else if 0 < figR l then tokR 4 (l.take (figR l)) (figR l) (numS (l.take (figR l))).2
  else if c.toNat = 34 then (if (quoN (l.drop 1)).2 = 0 then tokR 3 ((l.drop 1).take (quoN (l.drop 1)).1) ((quoN (l.drop 1)).1 + 2) 0 else tokR 0 [] 0 (quoN (l.drop 1)).2)
  else if 0 < (symS l).1 then tokR 5 (l.take (symS l).1) (symS l).1 0 else tokR 0 [] 0 8 := by subst h; rfl
theorem B4f {c : UInt8} (h : A3n c = true) : isUp c = false := by
 simp only [A3n, isUp, Bool.and_eq_true, decide_eq_true_eq] at h ⊢
 rw [Bool.and_eq_false_iff]; right; rw [decide_eq_false_iff_not]; omega
theorem D7e (l : List UInt8) (h0 : l.isEmpty = false) : if (A2c l).e = 0 then D2u l = tokR (A2c l).k (A2c l).t (A2c l).n 0 else ∃ k t n, D2u l = tokR k t n (A2c l).e := by
 cases l with
 | nil => cases h0
 | cons c r =>
  generalize hl : c :: r = l
  have hN := D2v hl
  have hR := C0h hl
  by_cases t1 : A3n c = true
  ·rw [if_pos t1] at hN
   rw [t1, B4f t1] at hR
   simp only [Bool.true_or, if_true, Bool.false_eq_true, if_false] at hR
   rw [hN, hR]
   by_cases h : 32 < runN false l
   ·simp only [if_pos h]
    exact ⟨0, [], 0, rfl⟩
   ·simp [if_neg h]
  ·rw [if_neg t1] at hN
   have t1' : A3n c = false := by simpa using t1
   by_cases t2 : isUp c = true
   ·rw [if_pos t2] at hN
    rw [t2] at hR
    simp only [Bool.or_true, if_true] at hR
    rw [hN, hR]
    by_cases h : 32 < runN true l
    ·simp only [if_pos h]
     exact ⟨0, [], 0, rfl⟩
    ·simp [if_neg h]
   ·rw [if_neg t2] at hN
    have t2' : isUp c = false := by simpa using t2
    rw [t1', t2'] at hR
    simp only [Bool.or_self, Bool.false_eq_true, if_false] at hR
    have hfig : figN l = minN l + ((l.drop (minN l)).takeWhile A1f).length := rfl
    have hmin : minN l = if c == 45 then 1 else 0 := by
     rw [<- hl]; unfold minN; cases h : (c == 45) <;> simp [h]
    by_cases t3 : (A1f c || decide (c.toNat = 45)) = true
    ·rw [if_pos t3] at hN
     by_cases h1 : figN l = minN l
     ·
      have hr : figR l = 0 := by rw [figR, if_pos h1]
      have hc : c = 45 := by
       by_cases h45 : c = 45
       ·exact h45
       ·exfalso
        have hd : A1f c = true := by
         rcases Bool.or_eq_true_iff.1 t3 with h | h
         ·exact h
         ·exact absurd (UInt8.toNat_inj.1 (by have := of_decide_eq_true h; show c.toNat = 45; omega)) h45
        have : (c == 45) = false := by simpa using h45
        rw [this] at hmin
        have hm0 : minN l = 0 := hmin
        rw [hm0] at hfig h1
        rw [List.drop_zero, <- hl, List.takeWhile_cons, if_pos hd] at hfig
        rw [<- hl] at h1
        simp at hfig
        omega
      have hm1 : minN l = 1 := by rw [hmin, hc]; rfl
      have hf1 : figN l = 1 := by rw [h1, hm1]
      have htk : l.take (figN l) = [45] := by rw [hf1, <- hl, hc]; rfl
      have he : figE (l.take (figN l)) = 8 := by rw [htk]; rfl
      rw [hr] at hR
      have h34 : ¬ c.toNat = 34 := by rw [hc]; decide
      have hsy : (symS l).1 = 0 := by
       rw [<- hl, hc]
       have a1 : Lib.hasPrefix (45 :: r) [60, 33] = false := by simp [Lib.hasPrefix, List.isPrefixOf]
       have a2 : Lib.hasPrefix (45 :: r) [33, 62] = false := by simp [Lib.hasPrefix, List.isPrefixOf]
       unfold symS
       rw [a1, a2]
       rfl
      rw [if_neg (by omega), if_neg h34, hsy, if_neg (by omega)] at hR
      rw [hN]
      simp only [he]
      exact ⟨0, [], 0, hR⟩
     ·have hr : figR l = figN l := by rw [figR, if_neg h1]
      have hpos : 0 < figN l := by omega
      have hne : l.take (figN l) ≠ [45] := by
       intro e
       have hlen := congrArg List.length e
       rw [List.length_take] at hlen
       have := B7c l
       have hf1 : figN l = 1 := by simp at hlen; omega
       have hc : c = 45 := by
        rw [hf1, <- hl] at e
        injection e
       rw [hc] at hmin
       have : minN l = 1 := hmin
       omega
      have he : figE (l.take (figN l)) = (numS (l.take (figN l))).2 := by rw [figE, if_neg hne]
      rw [hr, if_pos hpos] at hR
      rw [hN, hR]
      simp only [he]
      split
      ·rename_i h; rw [h]
      ·exact ⟨_, _, _, rfl⟩
    ·rw [if_neg t3] at hN
     have t3' : (A1f c || decide (c.toNat = 45)) = false := by simpa using t3
     have hd : A1f c = false := (Bool.or_eq_false_iff.1 t3').1
     have h45 : ¬ c.toNat = 45 := of_decide_eq_false (Bool.or_eq_false_iff.1 t3').2
     have hc45 : (c == 45) = false := by
      rw [beq_eq_false_iff_ne]
      intro e; rw [e] at h45; exact h45 rfl
     rw [hc45] at hmin
     have hm0 : minN l = 0 := hmin
     have hf0 : figN l = 0 := by
      rw [hfig, hm0, List.drop_zero, <- hl, List.takeWhile_cons, if_neg (by rw [hd]; simp)]
      rfl
     have hr : figR l = 0 := by rw [figR, if_pos (by rw [hf0, hm0])]
     rw [hr, if_neg (by omega)] at hR
     by_cases t4 : c.toNat = 34
     ·rw [if_pos t4] at hN hR
      rw [hN, hR]
      by_cases h : (quoN (l.drop 1)).2 = 0
      ·simp only [if_pos h]
       rw [show 1 + (quoN (l.drop 1)).1 + 1 = (quoN (l.drop 1)).1 + 2 by omega]
      ·simp only [if_neg h]
       exact ⟨0, [], 0, rfl⟩
     ·rw [if_neg t4] at hN hR
      rw [hN, hR]
      simp only
      have hsym : ((symS l).2 = 0 /\ 0 < (symS l).1) \/ ((symS l).2 = 8 /\ (symS l).1 = 0) := by
       unfold symS
       split
       ·left; simp
       ·split
        ·left; simp
        ·right; simp
      rcases hsym with ⟨h1, h2⟩ | ⟨h1, h2⟩
      ·rw [if_pos h1, if_pos h2]
      ·rw [if_neg (by omega), if_neg (by omega), h1]
       exact ⟨0, [], 0, rfl⟩
noncomputable def gRun : List T -> Option T := g2 tStr C4a fun s b => if s.size <= 65536 then some (iv (runN b s.data.toList : Int)) else none
theorem hRun : GOK Tryz.prog (G q) 50 gRun := A8i fun a b s c r ha hb hr => by
 have e1 : a = sv s := ha
 have e2 : b = bv c := hb
 subst e1; subst e2
 split at hr
 ·rename_i h; injection hr with hr; subst hr; exact D7a s c h
 ·cases hr
noncomputable def gFig : List T -> Option T := g1 tStr fun s => if s.size <= 65536 /\ 0 < s.size then some (iv (figR s.data.toList : Int)) else none
theorem hFig : GOK Tryz.prog (G q) 51 gFig := B2o fun a s r ha hr => by
 have e1 : a = sv s := ha
 subst e1
 split at hr
 ·rename_i h; injection hr with hr; subst hr; exact D7b s h.1 h.2
 ·cases hr
noncomputable def gQuo : List T -> Option T := g1 tStr fun s => if s.size <= 65536 /\ 0 < s.size then some (quoT s.data.toList) else none
theorem hQuo : GOK Tryz.prog (G q) 53 gQuo := B2o fun a s r ha hr => by
 have e1 : a = sv s := ha
 subst e1
 split at hr
 ·rename_i h; injection hr with hr; subst hr; exact D7c s h.1 h.2
 ·cases hr
noncomputable def gSym : List T -> Option T := g1 tStr fun s => if s.size <= 65536 /\ 0 < s.size then some (iv ((symS s.data.toList).1 : Int)) else none
theorem hSym : GOK Tryz.prog (G q) 54 gSym := B2o fun a s r ha hr => by
 have e1 : a = sv s := ha
 subst e1
 split at hr
 ·rename_i h; injection hr with hr; subst hr; exact D7d s h.1 h.2
 ·cases hr
noncomputable def E1c : List T -> Option T := g1 tStr fun s => if s.size <= 281474976710656 then some (numT s.data.toList) else none
theorem hRNum : GOK Tryz.prog (G q) 52 E1c := B2o fun a s r ha hr => by
 have e1 : a = sv s := ha
 subst e1
 split at hr
 ·rename_i h; injection hr with hr; subst hr; exact C4j s h
 ·cases hr
noncomputable def tbTk : Tbl := [(48, gChr A3n), (49, gChr isUp), (50, gRun), (51, gFig), (53, gQuo), (54, gSym), (52, E1c)]
theorem ctxTk : Ctx Tryz.prog (G q) (orc tbTk) := (A0z.cons (B3z B9w) (.cons (B3z B9v) (.cons hRun (.cons hFig (.cons hQuo (.cons hSym (.cons hRNum .nil))))))).ctx mixed
theorem bld2 {Φ : A0u} {H : Heap} {nx : Nat} (k : Int) (t : ByteArray) : A0d Φ H nx (.build [(0, 1), (1, 1), (2, 1)] [.int .i64 0, .string ⟨#[]⟩, .int .i64 0] [0, 1]) [.t (iv k), .t (sv t)] = some (.t (.ag [iv k, sv t, iv 0]), H, nx) := rfl
theorem bldq2 {Φ : A0u} {H : Heap} {nx : Nat} (k : Int) (t : ByteArray) : A2a Φ H nx (.build [(0, 1), (1, 1), (2, 1)] [.int .i64 0, .string ⟨#[]⟩, .int .i64 0] [0, 1]) [.t (iv k), .t (sv t)] = some (.t (.ag [iv k, sv t, iv 0])) := rfl
theorem sto0 (k l : Int) (t : ByteArray) (x y z : PV) (R : Heap) : A1b 3 ((0, .cells 44 [x, y, z]) :: R) (.ptr 0 0) (.t (.ag [iv k, sv t, iv l])) = some ((0, .cells 44 [.t (iv k), .t (sv t), .t (iv l)]) :: R) := rfl
theorem ldt0 (k l : Int) (t : ByteArray) (R : Heap) : A0s true 3 ((0, .cells 44 [.t (iv k), .t (sv t), .t (iv l)]) :: R) (.ptr 0 0) = some (.t (.ag [iv k, sv t, iv l])) := rfl
set_option maxHeartbeats 2000000 in
theorem D7f (s : ByteArray) (hs : s.size <= 65536) (h0 : 0 < s.size) : A1k Tryz.prog (G q) 32 [sv s] (· = D2u s.data.toList) := by
 have hlen : s.data.toList.length = s.size := rfl
 obtain ⟨l, hl⟩ : ∃ l, l = s.data.toList := ⟨_, rfl⟩
 rw [<- hl] at hlen ⊢
 obtain ⟨c, r, hcr⟩ : ∃ c r, c :: r = l := by
  cases l with
  | nil => simp at hlen; omega
  | cons c r => exact ⟨c, r, rfl⟩
 have ix := A1o s 0 c (by rw [<- hl, <- hcr]; rfl)
 simp only [Int.natCast_zero] at ix
 have hR := C0h hcr
 have q1 := A9v A3n c
 have q2 := A9v isUp c
 have q3 : ∀ b, gRun [.v (.string s), bv b] = some (iv (runN b l : Int)) := by intro b; rw [gRun, A8v (τ := tStr) (σ := C4a) (x := s) (y := b) rfl rfl, if_pos hs, hl]
 have q4 : gFig [.v (.string s)] = some (iv (figR l : Int)) := by rw [gFig, B2p (τ := tStr) (x := s) rfl, if_pos ⟨hs, h0⟩, hl]
 have q5 : gQuo [.v (.string s)] = some (quoT l) := by rw [gQuo, B2p (τ := tStr) (x := s) rfl, if_pos ⟨hs, h0⟩, hl]
 have q6 : gSym [.v (.string s)] = some (iv ((symS l).1 : Int)) := by rw [gSym, B2p (τ := tStr) (x := s) rfl, if_pos ⟨hs, h0⟩, hl]
 have slt : ∀ n : Nat, n <= l.length -> A4b (.t (sv s)) none (some (.t (iv (n : Int)))) = some (.t (sv (bs (l.take n)))) := by
  intro n hn
  rw [C9m s n (by omega)]
  have e3 : s.extract 0 n = bs (l.take n) := by
   rw [<- A9u (s.extract 0 n), Lib.extract_data, <- hl]; rfl
  rw [e3]
 refine C6w.call rfl ?_
 refine A0c ctxTk ?_
 cases t1 : A3n c with
 | true =>
  rw [t1, B4f t1] at hR
  simp only [Bool.true_or, if_true, Bool.false_eq_true, if_false] at hR
  rw [t1] at q1
  rw [B4f t1] at q2
  have hrl := B1g false l
  have sl := slt _ hrl
  have q3' := q3 false
  generalize runN false l = n at *
  by_cases h : 32 < n
  ·rw [if_pos h] at hR
   have h' : (32 : Int) < (n : Int) := by omega
   simp -implicitDefEqProofs [A3g, ix, tbTk, q1, q2, q3', h', -evalK_build, bld0, sto0, ldt0, hR]
  ·rw [if_neg h] at hR
   have h' : ¬ (32 : Int) < (n : Int) := by omega
   simp -implicitDefEqProofs [A3g, ix, tbTk, q1, q2, q3', h', sl, -evalK_build, bld2, sto0, ldt0, hR]
 | false =>
 rw [t1] at q1
 cases t2 : isUp c with
 | true =>
  rw [t1, t2] at hR
  simp only [Bool.or_true, if_true] at hR
  rw [t2] at q2
  have hrl := B1g true l
  have sl := slt _ hrl
  have q3' := q3 true
  generalize runN true l = n at *
  by_cases h : 32 < n
  ·rw [if_pos h] at hR
   have h' : (32 : Int) < (n : Int) := by omega
   simp -implicitDefEqProofs [A3g, ix, tbTk, q1, q2, q3', h', -evalK_build, bld0, sto0, ldt0, hR]
  ·rw [if_neg h] at hR
   have h' : ¬ (32 : Int) < (n : Int) := by omega
   simp -implicitDefEqProofs [A3g, ix, tbTk, q1, q2, q3', h', sl, -evalK_build, bld2, sto0, ldt0, hR]
 | false =>
 rw [t2] at q2
 rw [t1, t2] at hR
 simp only [Bool.or_self, Bool.false_eq_true, if_false] at hR
 by_cases hf : 0 < figR l
 ·rw [if_pos hf] at hR
  have hfl : figR l <= l.length := by
   have := B7c l
   unfold figR; split
   ·omega
   ·exact this
  have sl := slt _ hfl
  have gn : E1c [.v (.string (bs (l.take (figR l))))] = some (numT (l.take (figR l))) := by
   rw [E1c, B2p (τ := tStr) (x := bs (l.take (figR l))) rfl, if_pos (by show (l.take (figR l)).toArray.size <= _; simp; omega)]
  generalize l.take (figR l) = t at *
  generalize figR l = n at *
  have hf' : (0 : Int) < (n : Int) := by omega
  simp -implicitDefEqProofs [A3g, ix, tbTk, q1, q2, q4, hf, sl, gn, extractV, numT, -evalK_build, bld2, sto0, ldt0, hR]
 ·rw [if_neg hf] at hR
  have hf0 : figR l = 0 := by omega
  rw [hf0] at q4
  have q4' : gFig [.v (.string s)] = some (iv 0) := q4
  by_cases h34 : c.toNat = 34
  ·rw [if_pos h34] at hR
   have b34 : ((c.toNat : Int) == 34) = true := by rw [h34]; rfl
   unfold quoT at q5
   obtain ⟨hq1, hq2, hq3⟩ := B7d (l.drop 1)
   rw [List.length_drop] at hq1 hq2
   obtain ⟨n, hn⟩ : ∃ n, n = (quoN (l.drop 1)).1 := ⟨_, rfl⟩
   obtain ⟨e, he⟩ : ∃ e, e = (quoN (l.drop 1)).2 := ⟨_, rfl⟩
   rw [<- hn, <- he] at hR q5 hq2
   rw [<- hn] at hq1
   by_cases h : e = 0
   ·rw [if_pos h] at hR q5
    obtain ⟨m, hm⟩ : ∃ m, m = n + 2 := ⟨_, rfl⟩
    obtain ⟨m1, hm1⟩ : ∃ m1, m1 = n + 1 := ⟨_, rfl⟩
    rw [<- hm] at hR q5
    have hlt := hq2 h
    have e1 : IntKind.i64.wrap ((m : Int) - 1) = (m1 : Int) := by rw [A4i (by omega) (by omega)]; omega
    have sl : A4b (.t (sv s)) (some (.t (.v (.int .i64 1)))) (some (.t (iv (m1 : Int)))) = some (.t (sv (bs ((l.drop 1).take n)))) := by
     have := A9w s 1 m1 (by omega) (by omega)
     have e3 : s.extract 1 m1 = bs ((l.drop 1).take n) := by
      rw [<- A9u (s.extract 1 m1), Lib.extract_data, <- hl, hm1, Nat.add_sub_cancel]
     rw [e3] at this
     exact this
    simp -implicitDefEqProofs [A3g, ix, tbTk, q1, q2, q4', b34, q5, extractV, e1, sl, -evalK_build, bld2, sto0, ldt0, hR]
   ·rw [if_neg h] at hR q5
    have hb : (e != 0) = true := by rw [bne_iff_ne]; exact h
    simp -implicitDefEqProofs [A3g, ix, tbTk, q1, q2, q4', b34, q5, extractV, hb, -evalK_build, bld0, sto0, ldt0, hR]
  ·rw [if_neg h34] at hR
   have b34 : ((c.toNat : Int) == 34) = false := by rw [beq_eq_false_iff_ne]; omega
   have hsl : (symS l).1 <= l.length := by
    unfold symS
    split
    ·rename_i h
     rcases Bool.or_eq_true_iff.1 h with h | h
     ·have := (List.isPrefixOf_iff_prefix.1 h).length_le; simpa using this
     ·have := (List.isPrefixOf_iff_prefix.1 h).length_le; simpa using this
    ·split
     ·show 1 <= l.length; omega
     ·simp
   have sl := slt _ hsl
   generalize (symS l).1 = n at *
   by_cases hp : 0 < n
   ·rw [if_pos hp] at hR
    simp -implicitDefEqProofs [A3g, ix, tbTk, q1, q2, q4', b34, q6, hp, sl, -evalK_build, -evalQ_build, bldq2, sto0, ldt0, hR]
   ·rw [if_neg hp] at hR
    have hn0 : n = 0 := by omega
    subst hn0
    have q6' : gSym [.v (.string s)] = some (iv 0) := q6
    simp -implicitDefEqProofs [A3g, ix, tbTk, q1, q2, q4', b34, q6', -evalK_build, bld0, sto0, ldt0, hR]
noncomputable def gTok : List T -> Option T := g1 tStr fun s => if s.size <= 65536 /\ 0 < s.size then some (D2u s.data.toList) else none
theorem hTok : GOK Tryz.prog (G q) 32 gTok := B2o fun a s r ha hr => by
 have e1 : a = sv s := ha
 subst e1
 split at hr
 ·rename_i h; injection hr with hr; subst hr; exact D7f s h.1 h.2
 ·cases hr
noncomputable def tbRs : Tbl := [(32, gTok)]
theorem C5f : Ctx Tryz.prog (G q) (orc tbRs) := (A0z.cons hTok .nil).ctx mixed
structure RSc where
 f : Nat
 p : Nat
 ln : Nat
 cm : Bool
 out : List Tok
def B7n (f : Nat) (cm : Bool) (D : List UInt8) (l : Nat) : Except (Nat × Int) (List Tok) := A5z f (D.drop (A1m cm D).1) (l + (A1m cm D).2)
def SRs (s : ByteArray) (a : RSc) : A0b := ⟨[(8, .t (iv (a.p : Int))), (7, .t (bv a.cm)), (6, .t (iv (a.ln : Int))), (5, rowP eTok 0 a.out), (0, .t (sv s))], rowH eTok 44 0 a.out, 1, 71⟩
structure OkRs (l : List UInt8) (R : Except (Nat × Int) (List Tok)) (a : RSc) : Prop where
 le : a.p <= l.length
 fu : l.length - a.p < a.f
 ln : a.ln <= a.p + 1
 ol : a.out.length <= a.p
 eq : ahead a.out (B7n a.f a.cm (l.drop a.p) a.ln) = R
theorem stp3 (k l : Int) (t : List UInt8) (x y z : PV) (R : Heap) : A1b 3 ((1, .cells 44 [x, y, z]) :: R) (.ptr 1 0) (.t (.ag (tkc k t l))) = some ((1, tkr k t l) :: R) := rfl
theorem stl1 (k l m : Int) (t : List UInt8) (R : Heap) : A1b 1 ((1, tkr k t l) :: R) (.ptr 1 2) (.t (iv m)) = some ((1, tkr k t m) :: R) := rfl
theorem ldt1 (k l : Int) (t : List UInt8) (R : Heap) : A0s true 3 ((1, tkr k t l) :: R) (.ptr 1 0) = some (.t (.ag (tkc k t l))) := rfl
theorem bst1 (k l : Int) (t : List UInt8) : A6c 44 3 [.int .i64 0, .string ⟨#[]⟩, .int .i64 0] 1 [(0, .t (.ag (tkc k t l)))] 2 = some (.row 2 0 1 3, .cells 44 [.t (iv k), .t (sv (bs t)), .t (iv l)]) := rfl
set_option maxHeartbeats 4000000 in
theorem D2w (s : ByteArray) (hlim : s.size <= lim) : A1k Tryz.prog (G q) 16 [sv s] (· = B0b s.data.toList) := by
 refine D1z.call rfl ?_
 unfold B9s
 obtain ⟨l, hl⟩ : ∃ l, l = s.data.toList := ⟨_, rfl⟩
 have hlen : l.length = s.size := by rw [hl]; rfl
 rw [<- hl]
 by_cases hbig : 65536 < s.size
 ·have hb' : (65536 : Int) < (s.size : Int) := by omega
  have hT : B0b l = .tu [nilS, iv 0, iv 7] := by rw [B0b, if_pos (by omega)]
  refine A0c ctx0 ?_
  simp -implicitDefEqProofs [hb', hT]
 have hb' : ¬ (65536 : Int) < (s.size : Int) := by omega
 have hs : s.size <= 65536 := by omega
 have hT : B0b l = match A9x l 1 with
  | .error x => .tu [nilS, iv (x.1 : Int), iv x.2]
  | .ok ts => .tu [A1x eTok ts, iv 0, iv 0] := by rw [B0b, if_neg (by omega)] <;> cases A9x l 1 <;> rfl
 obtain ⟨R, hR⟩ : ∃ R, R = A9x l 1 := ⟨_, rfl⟩
 rw [<- hR] at hT
 refine A0a C5f ?_
 simp -implicitDefEqProofs
 refine A0a C5f ?_
 simp -implicitDefEqProofs [hb']
 refine A0a C5f ?_
 simp -implicitDefEqProofs
 refine A0a C5f ?_
 simp -implicitDefEqProofs
 refine A0a C5f ?_
 simp -implicitDefEqProofs
 refine A2h (α := RSc) (SRs s) (fun a => OkRs l R a /\ a.p = s.size) (fun _ => rfl) ?_ ?_
 ·refine A0a C5f ?_
  simp -implicitDefEqProofs
  refine A0w ?_
  refine A1l (SRs s) (fun a => s.size - a.p) (OkRs l R) ⟨l.length + 1, 0, 1, false, []⟩ (fun _ => rfl) ⟨Nat.zero_le _, by show l.length - 0 < l.length + 1; omega, Nat.le_refl _, by simp, ?_⟩ ?_ rfl ?_
  ·show ahead [] (B7n (l.length + 1) false (l.drop 0) 1) = R
   rw [C4m, hR, List.drop_zero]; rfl
  ·exact C9h (by omega) (by simp -implicitDefEqProofs [SRs, under, rowP])
  ·rintro ⟨f, p, ln, cm, out⟩ hok
   have hok' := hok
   obtain ⟨hp, hfu, hln, hol, heq⟩ := hok
   simp only at hp hfu hln hol heq
   have r0 : A0n eTok 44 (rowH eTok 44 0 out) 0 out := A0n.head' eTok 44 0 out
   refine A0c C5f ?_
   by_cases hlt : p < s.size
   ·obtain ⟨c, hc⟩ : ∃ c, l[p]? = some c := ⟨_, List.getElem?_eq_getElem (by omega)⟩
    have ix := A1o s p c (by rw [<- hl]; exact hc)
    have hdrop : l.drop p = c :: l.drop (p + 1) := by
     have := List.drop_eq_getElem_cons (l := l) (i := p) (by omega)
     rw [this, (List.getElem?_eq_some_iff.1 hc).2]
    obtain ⟨p1, hp1⟩ : ∃ p1, p1 = p + 1 := ⟨_, rfl⟩
    rw [<- hp1] at hdrop
    have e1 : IntKind.i64.wrap ((p : Int) + 1) = (p1 : Int) := by rw [hp1]; exact A1a (by omega) (by omega)
    have hsk : A1m cm (l.drop p) = if c.toNat = 10 then ((A1m false (l.drop p1)).1 + 1, (A1m false (l.drop p1)).2 + 1)
      else if cm || decide (c.toNat = 37) then ((A1m true (l.drop p1)).1 + 1, (A1m true (l.drop p1)).2)
      else if c.toNat = 32 \/ c.toNat = 9 \/ c.toNat = 13 then ((A1m false (l.drop p1)).1 + 1, (A1m false (l.drop p1)).2)
      else (0, 0) := by rw [hdrop, A1m]
    have go : ∀ (ln' : Nat) (cm' : Bool), ln' <= ln + 1 -> A1m cm (l.drop p) = ((A1m cm' (l.drop p1)).1 + 1, (ln' - ln) + (A1m cm' (l.drop p1)).2) -> ln <= ln' -> B7n f cm (l.drop p) ln = B7n f cm' (l.drop p1) ln' := by
     intro ln' cm' h1 h2 h3
     unfold B7n
     rw [h2]
     simp only
     rw [List.drop_drop, List.drop_drop, show p + ((A1m cm' (l.drop p1)).1 + 1) = p1 + (A1m cm' (l.drop p1)).1 by omega, show ln + ((ln' - ln) + (A1m cm' (l.drop p1)).2) = ln' + (A1m cm' (l.drop p1)).2 by omega]
    have nxt : ∀ (ln' : Nat) (cm' : Bool) (env : List (Nat × PV)), ln' <= ln + 1 -> ln <= ln' -> A1m cm (l.drop p) = ((A1m cm' (l.drop p1)).1 + 1, (ln' - ln) + (A1m cm' (l.drop p1)).2) ->
      (∀ q ∈ (SRs s ⟨f, p1, ln', cm', out⟩).env, Abs.look env q.1 = some q.2) ->
      Abs.Next Tryz.prog (G q) 0 (SRs s) (fun a' => OkRs l R a' /\ s.size - a'.p < s.size - p) ⟨env, rowH eTok 44 0 out, 1, 71⟩ := by
     intro ln' cm' env h1 h2 h3 h4
     refine Abs.Next.mk ⟨f, p1, ln', cm', out⟩ ⟨⟨by show p1 <= _; omega, by show l.length - p1 < f; omega, by show ln' <= p1 + 1; omega, by show out.length <= p1; omega, ?_⟩, by show s.size - p1 < s.size - p; omega⟩ (A0e rfl rfl h4 fun q hq => ?_)
     ·show ahead out (B7n f cm' (l.drop p1) ln') = R
      rw [<- go ln' cm' h1 h3 h2]; exact heq
     ·have : q ∈ rowH eTok 44 0 out := hq
      cases out with
      | nil => cases this
      | cons y r =>
       simp only [rowH, List.mem_singleton] at this
       subst this
       rfl
    have b10 : ((c.toNat : Int) == 10) = decide (c.toNat = 10) := by
     by_cases h : c.toNat = 10
     ·rw [h]; rfl
     ·rw [decide_eq_false h, beq_eq_false_iff_ne]; omega
    have b37 : ((c.toNat : Int) == 37) = decide (c.toNat = 37) := by
     by_cases h : c.toNat = 37
     ·rw [h]; rfl
     ·rw [decide_eq_false h, beq_eq_false_iff_ne]; omega
    by_cases h10 : c.toNat = 10
    ·rw [if_pos h10] at hsk
     rw [decide_eq_true h10] at b10
     obtain ⟨ln1, hln1⟩ : ∃ ln1, ln1 = ln + 1 := ⟨_, rfl⟩
     have e2 : IntKind.i64.wrap ((ln : Int) + 1) = (ln1 : Int) := by rw [hln1]; exact A1a (by omega) (by omega)
     simp -implicitDefEqProofs [SRs, hlt, ix, b10, e1, e2]
     exact nxt ln1 false _ (by omega) (by omega) (by rw [hsk, hln1, Nat.add_sub_cancel_left, Nat.add_comm 1]) (by simp -implicitDefEqProofs [SRs])
    ·rw [if_neg h10] at hsk
     rw [decide_eq_false h10] at b10
     have same : ∀ cm', A1m cm (l.drop p) = ((A1m cm' (l.drop p1)).1 + 1, (A1m cm' (l.drop p1)).2) -> A1m cm (l.drop p) = ((A1m cm' (l.drop p1)).1 + 1, (ln - ln) + (A1m cm' (l.drop p1)).2) := by
      intro cm' h; rw [h, Nat.sub_self, Nat.zero_add]
     cases hcm : cm with
     | true =>
      rw [hcm] at hsk
      simp only [Bool.true_or, if_true] at hsk
      subst hcm
      simp -implicitDefEqProofs [SRs, hlt, ix, b10, e1]
      exact nxt ln true _ (by omega) (by omega) (same true hsk) (by simp -implicitDefEqProofs [SRs])
     | false =>
      subst hcm
      by_cases h37 : c.toNat = 37
      ·rw [decide_eq_true h37] at b37 hsk
       simp only [Bool.or_true, if_true] at hsk
       simp -implicitDefEqProofs [SRs, hlt, ix, b10, b37, e1]
       exact nxt ln true _ (by omega) (by omega) (same true hsk) (by simp -implicitDefEqProofs [SRs])
      ·rw [decide_eq_false h37] at b37 hsk
       simp only [Bool.or_false, Bool.false_eq_true, if_false] at hsk
       by_cases h32 : c.toNat = 32
       ·rw [if_pos (.inl h32)] at hsk
        have b32 : ((c.toNat : Int) == 32) = true := by rw [h32]; rfl
        simp -implicitDefEqProofs [SRs, hlt, ix, b10, b37, b32, e1]
        exact nxt ln false _ (by omega) (by omega) (same false hsk) (by simp -implicitDefEqProofs [SRs])
       ·have b32 : ((c.toNat : Int) == 32) = false := by rw [beq_eq_false_iff_ne]; omega
        by_cases h9 : c.toNat = 9
        ·rw [if_pos (.inr (.inl h9))] at hsk
         have b9 : ((c.toNat : Int) == 9) = true := by rw [h9]; rfl
         simp -implicitDefEqProofs [SRs, hlt, ix, b10, b37, b32, b9, e1]
         exact nxt ln false _ (by omega) (by omega) (same false hsk) (by simp -implicitDefEqProofs [SRs])
        ·have b9 : ((c.toNat : Int) == 9) = false := by rw [beq_eq_false_iff_ne]; omega
         by_cases h13 : c.toNat = 13
         ·rw [if_pos (.inr (.inr h13))] at hsk
          have b13 : ((c.toNat : Int) == 13) = true := by rw [h13]; rfl
          simp -implicitDefEqProofs [SRs, hlt, ix, b10, b37, b32, b9, b13, e1]
          exact nxt ln false _ (by omega) (by omega) (same false hsk) (by simp -implicitDefEqProofs [SRs])
         ·have b13 : ((c.toNat : Int) == 13) = false := by rw [beq_eq_false_iff_ne]; omega
          rw [if_neg (by omega)] at hsk
          -- a token
          have heq2 : ahead out (A5z f (l.drop p) ln) = R := by
           rw [<- heq]; unfold B7n; rw [hsk]; rfl
          obtain ⟨D, hD⟩ : ∃ D, D = l.drop p := ⟨_, rfl⟩
          have hDl : D.length = l.length - p := by rw [hD, List.length_drop]
          have hDe : D.isEmpty = false := by rw [hD, hdrop]; rfl
          have hsl := B9z s p (by omega)
          have hxd : (s.extract p s.size).data.toList = D := by
           rw [Lib.extract_data, <- hl, <- hD]; exact List.take_of_length_le (by omega)
          have hxs : (s.extract p s.size).size = D.length := by rw [<- hxd]; rfl
          have gt : gTok [.v (.string (s.extract p s.size))] = some (D2u D) := by
           rw [gTok, B2p (τ := tStr) (x := s.extract p s.size) rfl, if_pos ⟨by omega, by omega⟩, hxd]
          have hrn := D7e D hDe
          have hpos := B5k D hDe
          rw [<- hD] at heq2
          obtain ⟨f', rfl⟩ : ∃ f', f = f' + 1 := ⟨f - 1, by omega⟩
          rw [A5z, hDe] at heq2
          simp only [Bool.false_eq_true, if_false] at heq2
          obtain ⟨k, hk⟩ : ∃ k, k = (A2c D).k := ⟨_, rfl⟩
          obtain ⟨t, ht⟩ : ∃ t, t = (A2c D).t := ⟨_, rfl⟩
          obtain ⟨e, he⟩ : ∃ e, e = (A2c D).e := ⟨_, rfl⟩
          obtain ⟨n, hnn⟩ : ∃ n, n = (A2c D).n := ⟨_, rfl⟩
          rw [<- he, <- hnn] at hpos
          rw [<- hk, <- ht, <- he, <- hnn] at heq2 hrn
          by_cases he0 : e = 0
          ·rw [if_pos he0] at hrn
           rw [hrn] at gt
           obtain ⟨hn1, hn2⟩ := hpos he0
           rw [if_neg (by simpa using he0)] at heq2
           obtain ⟨p2, hp2⟩ : ∃ p2, p2 = p + n := ⟨_, rfl⟩
           have e3 : IntKind.i64.wrap ((p : Int) + (n : Int)) = (p2 : Int) := by rw [A4i (by omega) (by omega)]; omega
           have hdd : D.drop n = l.drop p2 := by rw [hD, List.drop_drop, hp2]
           rw [hdd] at heq2
           have r0' : A0n eTok 44 ((2, .cells 44 [.t (iv k), .t (sv (bs t)), .t (iv (ln : Int))]) :: (1, tkr k t ln) :: rowH eTok 44 0 out) 0 out := (r0.cons (k := 1) (by omega)).cons (k := 2) (by omega)
           obtain ⟨b2, H2, n2, ap2, r2, ne2, hle2, hold, hb2⟩ := A4k (e := eTok) (ty := 44) (by' := 32) (nx := 3) (m := [⟨k, t, ln⟩]) r0' (A7w (e := eTok) (b := 2) (ty := 44) ⟨k, t, ln⟩ rfl) (by simp; omega) (by simp; omega)
           have ap2' : appM 44 3 32 ((2, .cells 44 [.t (iv k), .t (sv (bs t)), .t (iv (ln : Int))]) :: (1, tkr k t ln) :: rowH eTok 44 0 out) 3 (rowP eTok 0 out) (.row 2 0 1 3) = some (rowP eTok b2 (out ++ [⟨k, t, ln⟩]), H2, n2) := ap2
           simp -implicitDefEqProofs [SRs, hlt, ix, b10, b37, b32, b9, b13, hsl, tbRs, gt, extractV, stp3, stl1, ldt1, bst1, ap2', e3]
           refine Abs.Next.mk ⟨f', p2, ln, false, out ++ [⟨k, t, ln⟩]⟩ ⟨⟨by show p2 <= _; omega, by show l.length - p2 < f'; omega, by show ln <= p2 + 1; omega, by simp; omega, ?_⟩, by show s.size - p2 < s.size - p; omega⟩ ?_
           ·show ahead (out ++ [⟨k, t, ln⟩]) (B7n f' false (l.drop p2) ln) = R
            rw [<- heq2]
            unfold B7n
            cases A5z f' ((l.drop p2).drop (A1m false (l.drop p2)).1) (ln + (A1m false (l.drop p2)).2) with
            | error x => rfl
            | ok ts => show Except.ok _ = Except.ok _; simp
           ·unfold SRs
            exact B2q (k := b2) r2 (by omega) (by omega) (by simp -implicitDefEqProofs [A1c, A0o, ren, under])
          ·rw [if_neg he0] at hrn
           obtain ⟨k', t', n', hrn⟩ := hrn
           rw [hrn] at gt
           have hRe : R = .error (ln, e) := by rw [<- heq2, if_pos he0]; rfl
           rw [hRe] at hT
           simp only at hT
           have hb : (e != 0) = true := by rw [bne_iff_ne]; exact he0
           simp -implicitDefEqProofs [SRs, hlt, ix, b10, b37, b32, b9, b13, hsl, tbRs, gt, extractV, stp3, hb, hT]
   ·have hps : p = s.size := by omega
    subst hps
    simp -implicitDefEqProofs [SRs]
    refine Abs.Next.mk ⟨f, s.size, ln, cm, out⟩ ⟨hok', rfl⟩ ?_
    exact B2q (k := 0) r0 (by omega) (by omega) (by simp -implicitDefEqProofs [A1c, A0o, ren, under])
 rintro ⟨f, p, ln, cm, out⟩ ⟨hok, hps⟩
 obtain ⟨hp, hfu, hln, hol, heq⟩ := hok
 simp only at hp hfu hln hol heq hps
 subst hps
 have r0 : A0n eTok 44 (rowH eTok 44 0 out) 0 out := A0n.head' eTok 44 0 out
 have hd0 : l.drop s.size = [] := List.drop_eq_nil_of_le (by omega)
 have hRo : R = .ok out := by
  rw [<- heq, hd0]
  show ahead out (A5z f ([].drop (A1m cm []).1) (ln + (A1m cm []).2)) = _
  cases f with
  | zero => show Except.ok (out ++ []) = _; rw [List.append_nil]
  | succ f => rw [A5z]; show Except.ok (out ++ []) = _; rw [List.append_nil]
 rw [hRo] at hT
 simp only at hT
 have ht := D6y r0 (iv 0) (iv 0)
 refine A0c C5f ?_
 simp -implicitDefEqProofs [SRs, hT, -oneOf, ht]
def Sep (X : List UInt8) : Prop := ∀ c r, X = c :: r -> c.toNat = 32 \/ c.toNat = 10 \/ c.toNat = 9
theorem E6o {p : UInt8 -> Bool} (hp : ∀ c : UInt8, c.toNat = 32 \/ c.toNat = 10 \/ c.toNat = 9 -> p c = false) {X : List UInt8} (h : Sep X) : ∀ D : List UInt8, (D ++ X).takeWhile p = D.takeWhile p
 | [] => by
  cases X with
  | nil => rfl
  | cons c r => rw [List.nil_append, List.takeWhile_cons, if_neg (by rw [hp c (h c r rfl)]; simp)]; rfl
 | c :: D => by
  rw [List.cons_append, List.takeWhile_cons, List.takeWhile_cons, E6o hp h D]
theorem E2f {p : UInt8 -> Bool} : ∀ {D : List UInt8} {c : UInt8}, c ∈ D.takeWhile p -> p c = true
 | [], c, h => by simp at h
 | x :: D, c, h => by
  rw [List.takeWhile_cons] at h
  split at h
  ·rename_i hx
   rcases List.mem_cons.1 h with e | e
   ·rw [e]; exact hx
   ·exact E2f e
  ·simp at h
theorem C0i {p : UInt8 -> Bool} : ∀ D : List UInt8, D.take (D.takeWhile p).length = D.takeWhile p
 | [] => rfl
 | c :: D => by
  by_cases h : p c = true
  ·rw [List.takeWhile_cons, if_pos h, List.length_cons, List.take_succ_cons, C0i D]
  ·rw [List.takeWhile_cons, if_neg h]; rfl
theorem E1d : ∀ D : List UInt8, (quoN D).2 = 0 -> quoN (D.take ((quoN D).1 + 1)) = quoN D
 | [], h => by cases h
 | c :: D, h => by
  rw [quoN] at h
  by_cases h1 : c.toNat = 34
  ·rw [quoN, if_pos h1, List.take_succ_cons, quoN, if_pos h1]
  ·rw [if_neg h1] at h
   by_cases h2 : prt c = true
   ·rw [if_pos h2] at h
    rw [quoN, if_neg h1, if_pos h2, List.take_succ_cons, quoN, if_neg h1, if_pos h2, E1d D h]
   ·rw [if_neg h2] at h; cases h
theorem D7g : ∀ D : List UInt8, (quoN D).2 = 0 -> D.take ((quoN D).1 + 1) = D.take (quoN D).1 ++ [34]
 | [], h => by cases h
 | c :: D, h => by
  rw [quoN] at h
  by_cases h1 : c.toNat = 34
  ·have : c = 34 := UInt8.toNat_inj.1 h1
   rw [quoN, if_pos h1, this]; rfl
  ·rw [if_neg h1] at h
   by_cases h2 : prt c = true
   ·rw [if_pos h2] at h
    rw [quoN, if_neg h1, if_pos h2, List.take_succ_cons, List.take_succ_cons, D7g D h]; rfl
   ·rw [if_neg h2] at h; cases h
def wr (k : Int) (t : List UInt8) : List UInt8 := if k = 3 then 34 :: t ++ [34] else t
theorem E4j (c : UInt8) (r : List UInt8) (he : (A2c (c :: r)).e = 0) : wr (A2c (c :: r)).k (A2c (c :: r)).t = (c :: r).take (A2c (c :: r)).n := by
 rw [A2c] at he ⊢
 split
 ·rw [wr, if_neg (by simp)]
 ·rename_i t1
  rw [if_neg t1] at he
  split
  ·rw [wr, if_neg (by simp)]
  ·rename_i t2
   rw [if_neg t2] at he
   split
   ·rw [wr, if_neg (by simp)]
   ·rename_i t3
    rw [if_neg t3] at he
    split
    ·rename_i t4
     rw [if_pos t4] at he
     have he' : (quoN r).2 = 0 := he
     have hc : c = 34 := UInt8.toNat_inj.1 t4
     have e1 : (c :: r).drop 1 = r := rfl
     rw [wr, if_pos rfl]
     simp only [e1, he', if_true]
     rw [show 1 + (quoN r).1 + 1 = ((quoN r).1 + 1) + 1 by omega, List.take_succ_cons, D7g r he', hc]; rfl
    ·rw [wr, if_neg (by simp)]
theorem C5g : ∀ (f : Nat) (D : List UInt8) (l : Nat) (ts : List Tok), A5z f D l = .ok ts -> ts.length <= D.length
 | 0, D, l, ts, h => by simp only [A5z, Except.ok.injEq] at h; subst h; simp
 | f + 1, D, l, ts, h => by
  rw [A5z] at h
  split at h
  ·simp only [Except.ok.injEq] at h; subst h; simp
  ·rename_i h0
   split at h
   ·cases h
   ·rename_i he
    obtain ⟨n1, n2⟩ := B5k D (by simpa using h0) (by simpa using he)
    split at h
    ·cases h
    ·rename_i ts' h2
     injection h with h
     subst h
     have := C5g f _ _ _ h2
     simp only [List.length_drop] at this
     simp only [List.length_cons]
     omega
theorem C5h {D : List UInt8} {l : Nat} {ts : List Tok} (h : A9x D l = .ok ts) : ts.length <= D.length := by
 have := C5g _ _ _ _ h
 simp only [List.length_drop] at this
 omega
theorem C5i (f : Nat) (c : UInt8) (r : List UInt8) (l : Nat) (he : (A2c (c :: r)).e = 0) :
  A5z (f + 1) (c :: r) l = match B7n f false ((c :: r).drop (A2c (c :: r)).n) l with
   | .error x => .error x
   | .ok ts => .ok (⟨(A2c (c :: r)).k, (A2c (c :: r)).t, l⟩ :: ts) := by
 rw [A5z]
 simp only [List.isEmpty_cons, Bool.false_eq_true, if_false, he, ne_eq, not_true_eq_false, B7n]
 generalize A5z f (List.drop (A1m false (List.drop (A2c (c :: r)).n (c :: r))).fst (List.drop (A2c (c :: r)).n (c :: r))) (l + (A1m false (List.drop (A2c (c :: r)).n (c :: r))).snd) = z
 cases z <;> rfl
def E6p (t : Tok) : Prop := ∃ c r, (A2c (c :: r)).e = 0 /\ t.k = (A2c (c :: r)).k /\ t.t = (A2c (c :: r)).t
def wrT (t : Tok) : List UInt8 := wr t.k t.t
theorem D0d : ∀ (f : Nat) (D : List UInt8) (l : Nat) (ts : List Tok), A5z f D l = .ok ts -> (∀ t ∈ ts, E6p t) /\ (ts.flatMap wrT).length <= D.length
 | 0, D, l, ts, h => by simp only [A5z, Except.ok.injEq] at h; subst h; simp
 | f + 1, [], l, ts, h => by
  rw [A5z] at h
  simp only [List.isEmpty_nil, if_true, Except.ok.injEq] at h
  subst h; simp
 | f + 1, c :: r, l, ts, h => by
  by_cases he : (A2c (c :: r)).e = 0
  ·rw [C5i f c r l he] at h
   split at h
   ·cases h
   ·rename_i ts' h2
    injection h with h
    subst h
    obtain ⟨i1, i2⟩ := D0d f _ _ _ h2
    obtain ⟨n1, n2⟩ := B5k (c :: r) rfl he
    refine ⟨fun t ht => ?_, ?_⟩
    ·rcases List.mem_cons.1 ht with e | e
     ·rw [e]; exact ⟨c, r, he, rfl, rfl⟩
     ·exact i1 t e
    ·rw [List.flatMap_cons, List.length_append]
     have hw : wrT ⟨(A2c (c :: r)).k, (A2c (c :: r)).t, l⟩ = (c :: r).take (A2c (c :: r)).n := E4j c r he
     rw [hw, List.length_take]
     rw [List.length_drop, List.length_drop] at i2
     omega
  ·rw [A5z] at h
   simp only [List.isEmpty_cons, Bool.false_eq_true, if_false, ne_eq, he, not_false_eq_true, if_true] at h
   cases h
theorem B7o : ∀ (f : Nat) (D : List UInt8) (l : Nat) (x : Nat × Int), A5z f D l = .error x -> l <= x.1 /\ x.2 ≠ 0
 | 0, D, l, x, h => by cases h
 | f + 1, [], l, x, h => by cases h
 | f + 1, c :: r, l, x, h => by
  by_cases he : (A2c (c :: r)).e = 0
  ·rw [C5i f c r l he] at h
   split at h
   ·rename_i y hy
    injection h with h
    subst h
    have := B7o f _ _ _ hy
    exact ⟨by omega, this.2⟩
   ·cases h
  ·rw [A5z] at h
   simp only [List.isEmpty_cons, Bool.false_eq_true, if_false, ne_eq, he, not_false_eq_true, if_true] at h
   injection h with h
   subst h
   exact ⟨Nat.le_refl _, he⟩
theorem D7h {D : List UInt8} {l : Nat} {x : Nat × Int} (h : A9x D l = .error x) : l <= x.1 /\ x.2 ≠ 0 := by
 have := B7o _ _ _ _ h
 exact ⟨by omega, this.2⟩
def later (k : Nat) : Except (Nat × Int) (List Tok) -> Except (Nat × Int) (List Tok)
 | .error x => .error (x.1 + k, x.2)
 | .ok ts => .ok (ts.map fun t => ⟨t.k, t.t, t.l + k⟩)
end Go.Proofs.YtjkkgbdoeaihmaaGreatDoor
