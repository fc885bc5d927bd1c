/-
 Auxiliary facts. No statement of the program stands here.
-/
import Derived.Test.YtjkkgbdoeaihmaaGreatDoorUD2Q21
import Derived.Test.YtjkkgbdoeaihmaaGreatDoorUD2Q16
import Derived.Test.YtjkkgbdoeaihmaaGreatDoorUD2Q12
namespace Go.Proofs.YtjkkgbdoeaihmaaGreatDoor
set_option linter.unusedSimpArgs false
set_option linter.unusedVariables false
open Go Go.Abs
structure Tok where
 k : Int
 t : List UInt8
 l : Nat
def eTok : Enc Tok := ⟨3, fun t => [iv t.k, sv (bs t.t), iv (t.l : Int)], fun _ => rfl, by omega, fun a b h => by
 obtain ⟨k, t, l⟩ := a
 obtain ⟨k', t', l'⟩ := b
 injection h with h1 h2
 injection h2 with h2 h3
 injection h3 with h3
 injection h1 with h1; injection h1 with _ h1
 injection h2 with h2; injection h2 with h2
 injection h3 with h3; injection h3 with _ h3
 have h2' : t = t' := by
  have := congrArg (fun b : ByteArray => b.data.toList) h2
  simpa using this
 simp only at h1 h3
 have h3' : l = l' := by omega
 rw [h1, h2', h3']⟩
def A5z : Nat -> List UInt8 -> Nat -> Except (Nat × Int) (List Tok)
 | 0, _, _ => .ok []
 | f + 1, D, l =>
  if D.isEmpty then .ok []
  else if (A2c D).e ≠ 0 then .error (l, (A2c D).e)
  else match A5z f ((D.drop (A2c D).n).drop (A1m false (D.drop (A2c D).n)).1) (l + (A1m false (D.drop (A2c D).n)).2) with
   | .error x => .error x
   | .ok ts => .ok (⟨(A2c D).k, (A2c D).t, l⟩ :: ts)
def A9x (D : List UInt8) (l : Nat) : Except (Nat × Int) (List Tok) := A5z (D.length + 1) (D.drop (A1m false D).1) (l + (A1m false D).2)
def ahead (out : List Tok) : Except (Nat × Int) (List Tok) -> Except (Nat × Int) (List Tok)
 | .error x => .error x
 | .ok ts => .ok (out ++ ts)
theorem C4m (r : Except (Nat × Int) (List Tok)) : ahead [] r = r := by cases r <;> rfl
theorem C1o : ∀ (l : List UInt8) (cm : Bool), (A1m cm l).2 <= (A1m cm l).1
 | [], _ => by simp [A1m]
 | c :: r, cm => by
  have h1 := C1o r false
  have h2 := C1o r true
  rw [A1m]
  split
  ·simp; omega
  ·split
   ·simp; omega
   ·split
    ·simp; omega
    ·simp
theorem D5m (big : Bool) (c : UInt8) (r : List UInt8) (h : A2i big c = true) : 1 <= runN big (c :: r) := by
 unfold runN
 rw [List.takeWhile_cons, if_pos h]
 simp
theorem B5k (D : List UInt8) (h0 : D.isEmpty = false) (he : (A2c D).e = 0) : 1 <= (A2c D).n /\ (A2c D).n <= D.length := by
 cases D with
 | nil => cases h0
 | cons c r =>
  rw [A2c] at he ⊢
  by_cases t1 : A3n c = true
  ·rw [if_pos t1]
   exact ⟨D5m false c r (by rw [B7a]; simp [t1]), B1g _ _⟩
  ·rw [if_neg t1] at he ⊢
   by_cases t2 : isUp c = true
   ·rw [if_pos t2]
    exact ⟨D5m true c r (by rw [B7a]; simp [t2]), B1g _ _⟩
   ·rw [if_neg t2] at he ⊢
    by_cases t3 : (A1f c || decide (c.toNat = 45)) = true
    ·rw [if_pos t3]
     refine ⟨?_, B7c _⟩
     show 1 <= figN (c :: r)
     unfold figN minN
     by_cases h45 : c = 45
     ·subst h45; simp
     ·have hd : A1f c = true := by
       rcases Bool.or_eq_true_iff.1 t3 with h | h
       ·exact h
       ·exact absurd (UInt8.toNat_inj.1 (by have := of_decide_eq_true h; show c.toNat = 45; omega)) h45
      have : ((c :: r).head? == some 45) = false := by simpa using h45
      rw [this]
      simp [List.takeWhile_cons, hd]
    ·rw [if_neg t3] at he ⊢
     by_cases t4 : c.toNat = 34
     ·rw [if_pos t4] at he ⊢
      obtain ⟨q1, q2, q3⟩ := B7d ((c :: r).drop 1)
      have he' : (quoN ((c :: r).drop 1)).2 = 0 := he
      have := q2 he'
      simp only [he', if_true]
      simp at this ⊢
      omega
     ·rw [if_neg t4] at he ⊢
      have he' : (symS (c :: r)).2 = 0 := he
      show 1 <= (symS (c :: r)).1 /\ (symS (c :: r)).1 <= (c :: r).length
      unfold symS at he' ⊢
      split
      ·rename_i h
       refine ⟨by omega, ?_⟩
       rcases Bool.or_eq_true_iff.1 h with h | h
       ·have := (List.isPrefixOf_iff_prefix.1 h).length_le; simpa using this
       ·have := (List.isPrefixOf_iff_prefix.1 h).length_le; simpa using this
      ·rename_i h
       rw [if_neg h] at he'
       split
       ·simp
       ·rename_i h2
        rw [if_neg h2] at he'
        cases he'
abbrev KT := Int × List UInt8
abbrev Res (α : Type) := Except Int (α × Nat)
section
variable (l : List KT)
def isSy (p : Nat) (s : List UInt8) : Bool := match l[p]? with
 | some t => decide (t.1 = 5) && decide (t.2 = s)
 | none => false
def A2u (p : Nat) (k : Int) : Res ByteArray := match l[p]? with
 | none => .error 9
 | some t => if t.1 = k then .ok (bs t.2, p + 1) else .error 8
def A3w (p : Nat) (s : List UInt8) : Except Int Nat := if l.length <= p then .error 9 else if isSy l p s then .ok (p + 1) else .error 8
def B1h : Nat -> Nat -> List ByteArray -> Res (List ByteArray)
 | 0, _, _ => .error 0
 | f + 1, p, path => if isSy l p [46] then (if 64 <= path.length then .error 7 else match A2u l (p + 1) 2 with
   | .error e => .error e
   | .ok (s, p') => B1h f p' (path ++ [s])) else .ok (path, p)
def A7x (rec : Nat -> Res Ds) (p : Nat) : Res Ds := match A2u l p 2 with
 | .error e => .error e
 | .ok (s, p1) => match B1h l (l.length + 1) p1 [s] with
  | .error e => .error e
  | .ok (path, p2) => match rec p2 with
   | .error e => .error e
   | .ok (d, p3) => .ok (.mk 5 ⟨#[]⟩ path [d], p3)
def brS (rec : Nat -> Res Ds) : Nat -> Nat -> List Ds -> Res (List Ds)
 | 0, _, _ => .error 0
 | f + 1, p, parts => match A7x l rec p with
  | .error e => .error e
  | .ok (d, p1) => if isSy l p1 [44] then (if 256 <= parts.length + 1 then .error 7 else brS rec f (p1 + 1) (parts ++ [d])) else match A3w l p1 [93] with
   | .error e => .error e
   | .ok p2 => .ok (parts ++ [d], p2)
def itS (rec : Nat -> Res Ds) : Nat -> Nat -> List Ds -> Res (List Ds)
 | 0, _, _ => .error 0
 | f + 1, p, kids => if isSy l p [44] then (if 256 <= kids.length then .error 7 else match rec (p + 1) with
   | .error e => .error e
   | .ok (d, p') => itS rec f p' (kids ++ [d])) else .ok (kids, p)
def A2y (s : List UInt8) (op : Int) (kids : List Ds) (p : Nat) : Res Ds := match A3w l p s with
 | .error e => .error e
 | .ok p' => .ok (.mk op ⟨#[]⟩ [] kids, p')
def lstS (rec : Nat -> Res Ds) (p : Nat) : Res Ds :=
 if l.length <= p then .error 9 else if isSy l p [62] then A2y l [62] 6 [] p else match rec p with
 | .error e => .error e
 | .ok (d, p1) => match itS l rec (l.length + 1) p1 [d] with
  | .error e => .error e
  | .ok (kids, p2) => if isSy l p2 [124] then (if 256 <= kids.length then .error 7 else match rec (p2 + 1) with
    | .error e => .error e
    | .ok (d', p3) => A2y l [62] 7 (kids ++ [d']) p3)
   else A2y l [62] 6 kids p2
def dffS (rec : Nat -> Res Ds) (p : Nat) : Res Ds :=
 if l.length <= p then .error 9 else if isSy l p [33, 62] then A2y l [33, 62] 8 [] p else match rec p with
 | .error e => .error e
 | .ok (d, p1) => match itS l rec (l.length + 1) p1 [d] with
  | .error e => .error e
  | .ok (kids, p2) => A2y l [33, 62] 8 kids p2
def A7y (parts : List Ds) : Res Ds -> Res (List Ds)
 | .error e => .error e
 | .ok (d, p) => .ok (parts ++ [d], p)
def B2u (op : Int) : Res ByteArray -> Res Ds
 | .error e => .error e
 | .ok (s, p) => .ok (.mk op s [] [], p)
def A6d (rec : Nat -> Res Ds) (p : Nat) (parts : List Ds) : Res (List Ds) := match l[p]? with
 | none => .error 9
 | some t =>
  if t.1 = 1 then .ok (parts ++ [.mk 1 (bs t.2) [] []], p + 1)
  else if t.1 ≠ 5 then .error 8
  else if t.2 = [64] then A7y parts (B2u 2 (A2u l (p + 1) 1))
  else if t.2 = [35] then A7y parts (B2u 3 (A2u l (p + 1) 1))
  else if t.2 = [91] then brS l rec (l.length + 1) (p + 1) parts
  else if t.2 = [60] then A7y parts (lstS l rec (p + 1))
  else if t.2 = [60, 33] then A7y parts (dffS l rec (p + 1))
  else .error 8
def andS (rec : Nat -> Res Ds) : Nat -> Nat -> List Ds -> Res (List Ds)
 | 0, _, _ => .error 0
 | f + 1, p, parts => if isSy l p [38] then (if 256 <= parts.length then .error 7 else match A6d l rec (p + 1) parts with
   | .error e => .error e
   | .ok (parts', p') => andS rec f p' parts') else .ok (parts, p)
def oneS (parts : List Ds) : Ds := match parts with
 | [d] => d
 | parts => .mk 4 ⟨#[]⟩ [] parts
def desS : Nat -> Nat -> Res Ds
 | 0, p => if l.length <= p then .error 9 else .error 7
 | n + 1, p => if l.length <= p then .error 9 else match A6d l (desS n) p [] with
  | .error e => .error e
  | .ok (parts, p1) => match andS l (desS n) (l.length + 1) p1 parts with
   | .error e => .error e
   | .ok (parts', p2) => .ok (oneS parts', p2)
end
end Go.Proofs.YtjkkgbdoeaihmaaGreatDoor
namespace Go.Abs
set_option linter.unusedSimpArgs false
set_option linter.unusedVariables false
open Go
def E5n : PV -> List Nat
 | .row b _ _ _ => [b]
 | _ => []
def E5o : List Nat := []
def given (m : Mini) (s : A0b) : List Nat := match m.k with
 | .call f => if E5o.contains f then m.xs.flatMap (fun x => E5n (x.ev s.env)) else []
 | _ => []
section
variable {P : Program} {G : A0t} {B N : Nat} {Φ : A0u}
end
abbrev A2m := List PanicEntry
def A8z (P : Program) (G : A0t) (f : FuncId) (ps : List PV) (H : Heap) (nx : Nat) (ch : A2m) (H' : Heap) : Prop :=
 IsFn P f /\ ∀ (L : Loc) (w : World) (us : Array Value), A1g P G L H w -> L.nx = nx -> A0q P L w ps us.toList ->
  Calls P f us w fun e w' => ∃ L', e = .panicked ch /\ A1g P G L' H' w' /\ L'.nx = nx /\ Mono L w L' w' /\ Ext L H w L' H' w'
inductive Out where
 | ret (r : PV) (H : Heap) (nx : Nat)
 | pan (ch : A2m)
def B7e (P : Program) (G : A0t) (f : FuncId) (ps : List PV) (H : Heap) (nx : Nat) : Out -> Prop
 | .ret r H' nx' => A1d P G f ps H nx r H' nx'
 | .pan ch => A8z P G f ps H nx ch []
abbrev Pans := FuncId -> List PV -> Heap -> Nat -> Option A2m
def POK (P : Program) (G : A0t) (E : Pans) : Prop := ∀ f ps H nx ch, E f ps H nx = some ch -> A8z P G f ps H nx ch []
def B4b : List PV -> Option A2m
 | [.t (.ic t (.v x))] => some [{ v := .iface t x, recovered := false }]
 | _ => none
def panK (E : Pans) (H : Heap) (nx : Nat) (k : MK) (ps : List PV) : Option A2m :=
 match k with
 | .hcall f => E f ps H nx
 | .hx .pan => B4b ps
 | _ => none
def C7e (x : Option A2m) (X : A2m -> Prop) (C : Prop) : Prop :=
 match x with
 | some ch => X ch
 | none => C
@[simp] theorem onPan_some (ch : A2m) (X : A2m -> Prop) (C : Prop) : C7e (some ch) X C = X ch := rfl
@[simp] theorem onPan_none (X : A2m -> Prop) (C : Prop) : C7e none X C = C := rfl
def A2t (Φ : A0u) (E : Pans) : List Mini -> A0b -> (A0b -> Prop) -> (A2m -> Prop) -> Prop
 | [], s, K, _ => K s
 | m :: r, s, K, X => B6i (m.wants s.env)
   (C7e (panK E s.H s.nx m.k (m.xs.map (·.ev s.env))) X (A1y (A0d Φ s.H s.nx m.k (m.xs.map (·.ev s.env))) fun q => A2t Φ E r (s.set m.dst q) K X))
   (A2t Φ E r (s.set m.dst (.t (.v undef), s.H, s.nx)) K X)
def anyP (Q : Exit -> A0b -> Prop) (ch : A2m) : Prop := ∀ s, Q (.panic ch) s
def A5g (Φ : A0u) (E : Pans) : A0p -> A0b -> (Exit -> A0b -> Prop) -> Prop
 | .skip, s, Q => Q .normal s
 | .ops l, s, Q => A2t Φ E l s (Q .normal) (anyP Q)
 | .draw l, s, Q => A4z Φ l s (Q .normal)
 | .drawG k l, s, Q => A7t Φ k 0 0 [] l s (Q .normal)
 | .seq a b, s, Q => A5g Φ E a s (A5p (fun s1 => A5g Φ E b s1 Q) Q)
 | .cond c a b, s, Q => B9l (c.ev s.env) (A5g Φ E a s Q) (A5g Φ E b s Q)
 | .block id b, s, Q => A5g Φ E b s (A6b id Q)
 | .loop _, _, _ => False
 | .exit id, s, Q => Q (.exit id) s
 | .ret, s, Q => Q .ret s
 | .scope b, s, Q => A5g Φ E b s (B1z Q)
section
variable {P : Program} {G : A0t} {B N : Nat} {Φ : A0u} {E : Pans} {Q : Exit -> A0b -> Prop} {s : A0b}
def APan (P : Program) (G : A0t) (B : Nat) (o : Oper) (s : A0b) (ch : A2m) : Prop :=
 ∀ L a w, Interp P G B L s a w -> o.wp P a w (fun _ _ => False) (fun e a' w' => e = .panic ch /\ a' = a /\ ∃ L', A1g P G L' [] w' /\ L'.nx = s.nx /\ Mono L w L' w' /\ Ext L s.H w L' [] w')
theorem B7f {L : Loc} {H : Heap} {w : World} (h : A1g P G L H w) : A1g P G L [] w /\ Ext L H w L [] w :=
 ⟨⟨h.lt, fun _ _ hb => (by cases hb), fun _ _ hb => (by cases hb), fun _ _ _ _ hb => (by cases hb), fun _ _ hb => (by cases hb), h.glob⟩,
  ⟨Nat.le_refl _, fun _ _ _ => rfl, fun _ h => h, fun _ h => .inl h, fun _ ⟨_, _, hb, _⟩ => (by cases hb), A2o.refl w, A3t.refl w⟩⟩
theorem D5n {o : Oper} {f : FuncId} {args : Array Operand} {ts : Array TypeId} {ch : A2m} (ho : o.op = .call ⟨.value (.func f), args, ts⟩) (hc : A8z P G f (args.toList.map (s.ev G)) s.H s.nx ch []) : APan P G B o s ch := fun L a w hi => by
 unfold Oper.wp
 have hr : (execOp a.eval o).run P w = .ok (.enter f (args.map a.eval)) w := by simp [execOp, ho, resolve, Act.eval, Deferred.ofValue, invoke, hc.1.run]
 rw [hr, Oper.upon_enter]
 refine (hc.2 L w _ hi.heap hi.nx (B5h hi args)).mono ?_
 rintro e w' ⟨L', rfl, h1, h2, h3, h4⟩
 exact ⟨rfl, rfl, L', h1, h2, h3, h4⟩
theorem D9z {o : Oper} {x : Operand} {ch : A2m} (ho : o.op = .panic x) (hc : B4b [s.ev G x] = some ch) : APan P G B o s ch := fun L a w hi => by
 have h := hi.ev x
 generalize s.ev G x = p at h hc
 unfold B4b at hc
 split at hc
 ·rename_i t v e
  injection e with e e2
  subst e
  injection hc with hc
  subst hc
  simp only [RepV, RepT] at h
  obtain ⟨y, hy, rfl⟩ := h
  unfold Oper.wp
  have hr : (execOp a.eval o).run P w = .halt (.panic (.iface t y)) w := by
   simp [execOp, ho, hy, Instr.panic, goPanic]
  rw [hr]
  exact ⟨rfl, rfl, L, (B7f hi.heap).1, hi.nx, Mono.refl L w, (B7f hi.heap).2⟩
 ·cases hc
def C7f (P : Program) (G : A0t) (B : Nat) (ops : Array Oper) (l : List Oper) (Q : Exit -> A0b -> Prop) (s : A0b) : Prop :=
 ∀ L a w, Interp P G B L s a w -> wpList P ops (Post P G B Q L s.H w) l a w
theorem C4n {ops : Array Oper} {L L' : Loc} {H H' : Heap} {w w' : World} (hq : ∀ e a w2, Post P G B Q L' H' w' e a w2 -> Post P G B Q L H w e a w2) : ∀ (l : List Oper) (a : Act) (w2 : World), wpList P ops (Post P G B Q L' H' w') l a w2 -> wpList P ops (Post P G B Q L H w) l a w2 := by
 intro l
 induction l with
 | nil => intro a w2 h; exact hq _ _ _ h
 | cons o l ih =>
  intro a w2 h
  unfold wpList at h ⊢
  split
  ·rename_i hw
   rw [if_pos hw] at h
   rcases h with h | ⟨h1, a0, w0, h2⟩
   ·exact .inl (A2d ih hq h)
   ·exact .inr ⟨h1, a0, w0, hq _ _ _ h2⟩
  ·rename_i hw
   rw [if_neg hw] at h
   exact ih _ _ h
theorem D2i {ops : Array Oper} {o : Oper} {rest : List Oper} {r : PV} {H' : Heap} {nx' : Nat} (hw : s.wants ops o = some true) (hd : ∀ k, o.dst = some k -> k < s.n)
  (ho : AOp P G B o s r H' nx') (h : C7f P G B ops rest Q (({ s with H := H', nx := nx' } : A0b).put o.dst r)) : C7f P G B ops (o :: rest) Q s := fun L a w hi => by
 unfold wpList
 rw [if_pos (hi.wants hw)]
 refine .inl (A2d ?_ (fun _ _ _ h => h.elim) (ho L a w hi))
 rintro a' w' ⟨v, L', rfl, hr, hok, rfl, hm, hx⟩
 have hp := h L' _ w' (B0e hi hd hr hok hm)
 rw [A9g] at hp
 refine C4n ?_ _ _ _ hp
 rintro e a w2 ⟨s2, L2, q, hi2, hx2, hb2⟩
 exact ⟨s2, L2, q, hi2, hx.trans hx2, fun b hb => (hb2 b hb).trans (hm.μ b (Nat.lt_of_lt_of_le hb hi.base))⟩
theorem D2j {ops : Array Oper} {o : Oper} {rest : List Oper} (hw : s.wants ops o = some false) (hd : ∀ k, o.dst = some k -> k < s.n)
  (h : C7f P G B ops rest Q (s.put o.dst (.t (.v undef)))) : C7f P G B ops (o :: rest) Q s := fun L a w hi => by
 unfold wpList
 rw [if_neg (by rw [hi.wants hw]; simp)]
 have hi' := B0e hi (r := .t (.v undef)) (v := undef) hd (by simp only [RepV, RepT]) hi.heap (Mono.refl L w)
 have e : ({ s with H := s.H, nx := L.nx } : A0b) = s := by rw [hi.nx]
 rw [e] at hi'
 have := h L _ w hi'
 rw [A9g] at this
 exact this
theorem E0a {L L' : Loc} {a : Act} {w w' : World} {ch : A2m} (hi : Interp P G B L s a w) (h1 : A1g P G L' [] w') (h2 : L'.nx = s.nx) (h3 : Mono L w L' w') (h4 : Ext L s.H w L' [] w') (hx : anyP Q ch) : Post P G B Q L s.H w (.panic ch) a w' :=
 ⟨⟨[], [], L'.nx, s.n⟩, L', hx _, ⟨h1, rfl, by rw [h2, <- hi.nx]; exact hi.base, hi.size, hi.defers, fun k p hl => by cases hl⟩, h4, fun b hb => h3.μ b (Nat.lt_of_lt_of_le hb hi.base)⟩
theorem D5o {ops : Array Oper} {o : Oper} {rest : List Oper} {ch : A2m} (hw : s.wants ops o = some true) (ho : APan P G B o s ch) (hx : anyP Q ch) : C7f P G B ops (o :: rest) Q s := fun L a w hi => by
 unfold wpList
 rw [if_pos (hi.wants hw)]
 refine .inl (A2d (fun _ _ h => h.elim) ?_ (ho L a w hi))
 rintro e a' w' ⟨rfl, rfl, L', h1, h2, h3, h4⟩
 exact E0a hi h1 h2 h3 h4 hx
theorem C1p {id : Nat} {ops : Array Oper} (h : C7f P G B ops ops.toList Q s) : A5i P G B (.region id ops false) Q s := fun L a w hi =>
 wp_region_list (h L a w hi)
theorem E3r {d : Bool} {o : Op} {k : MK} {xs : List Opd} (hc : opK P G d o = (k, xs)) {H : Heap} {nx : Nat} {ps : List PV} {ch : A2m} (hp : panK E H nx k ps = some ch) :
  (∃ f args ts, o = .call ⟨.value (.func f), args, ts⟩ /\ k = .hcall f /\ xs = args.toList.map (A0j G)) \/ (∃ x, o = .panic x /\ k = .hx .pan /\ xs = [A0j G x]) := by
 unfold opK at hc
 split at hc
 ·rename_i q hq
  subst hc
  unfold extK at hq
  split at hq
  all_goals (first
   | (injection hq with hq; injection hq with e1 e2; subst e1; subst e2; exact .inr ⟨_, rfl, rfl, rfl⟩)
   | (obtain ⟨ks, _, e⟩ := Option.map_eq_some_iff.1 hq; injection e with e1 e2; subst e1; cases hp; done)
   | (split at hq <;> (first | (cases hq; done) | (injection hq with hq; injection hq with e1 e2; subst e1; cases hp; done) | (split at hq <;> (first | (cases hq; done) | (injection hq with hq; injection hq with e1 e2; subst e1; cases hp; done)))); done)
   | (injection hq with hq; injection hq with e1 e2; subst e1; cases hp; done)
   | (cases hq; done))
 ·split at hc
  ·split at hc
   ·injection hc with e1 e2; subst e1; cases hp
   ·injection hc with e1 e2; subst e1; cases hp
  ·split at hc
   ·rename_i q hq
    subst hc
    unfold C8w at hq
    split at hq
    all_goals (first
     | (
       split at hq
       ·injection hq with hq; injection hq with e1 e2; subst e1; subst e2; exact .inl ⟨_, _, _, rfl, rfl, rfl⟩
       ·injection hq with hq; injection hq with e1 e2; subst e1; cases hp)
     | (injection hq with hq; injection hq with e1 e2; subst e1; cases hp; done)
     | (obtain ⟨ks, _, e⟩ := Option.map_eq_some_iff.1 hq; injection e with e1 e2; subst e1; cases hp; done)
     | (cases hq; done)
     | skip)
    all_goals repeat' (first
     | (cases hq; done)
     | (injection hq with hq; injection hq with e1 e2; subst e1; cases hp; done)
     | (obtain ⟨ks, _, e⟩ := Option.map_eq_some_iff.1 hq; injection e with e1 e2; subst e1; cases hp; done)
     | split at hq)
   ·injection hc with e1 e2; subst e1; cases hp
theorem C9n (hE : POK P G E) {d : Bool} {o : Oper} {k : MK} {xs : List Opd} {ch : A2m} (hc : opK P G d o.op = (k, xs)) (hp : panK E s.H s.nx k (xs.map (·.ev s.env)) = some ch) : APan P G B o s ch := by
 rcases E3r hc hp with ⟨f, args, ts, ho, rfl, rfl⟩ | ⟨x, ho, rfl, rfl⟩
 ·refine D5n ho (hE _ _ _ _ _ ?_)
  have : (args.toList.map (A0j G)).map (·.ev s.env) = args.toList.map (s.ev G) := by
   rw [List.map_map]
   exact List.map_congr_left fun x _ => A5n G s x
  rw [this] at hp
  exact hp
 ·refine D9z ho ?_
  simp only [List.map_cons, List.map_nil, A5n] at hp
  exact hp
theorem A9y (hΦ : Φ.Sound P G) (hE : POK P G E) {ops : Array Oper} : ∀ (os : List Oper) {l : List Mini} {s : A0b}, B0l P G N false ops os l -> s.n = N -> A2t Φ E l s (Q .normal) (anyP Q) -> C7f P G B ops os Q s
 | [], l, s, ha, hn, h => by
  simp only [B0l] at ha
  subst ha
  exact fun L a w hi => A8e hi h
 | o :: rest, l, s, ha, hn, h => by
  simp only [B0l] at ha
  obtain ⟨m, l', rfl, hm, hr⟩ := ha
  obtain ⟨hc, hdst, hd, hw⟩ := A6l hm
  have hd' : ∀ k, o.dst = some k -> k < s.n := fun k hk => by rw [hn]; exact hd k hk
  simp only [A2t] at h
  rw [<- hw s, hdst] at h
  cases hww : s.wants ops o with
  | none => rw [hww] at h; exact h.elim
  | some b =>
   rw [hww] at h
   cases b with
   | false =>
    simp only [onWants_false, A9m] at h
    exact D2j hww hd' (A9y hΦ hE rest hr (by rw [B3g]; exact hn) h)
   | true =>
    simp only [onWants_true] at h
    cases hp : panK E s.H s.nx m.k (m.xs.map (·.ev s.env)) with
    | some ch =>
     rw [hp] at h
     exact D5o hww (C9n hE hc hp) h
    | none =>
     rw [hp, onPan_none] at h
     obtain ⟨⟨r, H', nx'⟩, hv, hk⟩ := A3f h
     rw [A9m] at hk
     exact D2i hww hd' (B0v hΦ hc hv) (A9y hΦ hE rest hr (by rw [B3g]; exact hn) hk)
def E3s (n : Nat) (e : Exit) (s : A0b) : Prop := (∀ ch, e ≠ .panic ch) -> s.n = n
theorem C9o : ∀ {l : List Mini} {s : A0b} {K : A0b -> Prop} {X : A2m -> Prop}, A2t Φ E l s K X -> A2t Φ E l s (fun s' => K s' /\ s'.n = s.n) X
 | [], s, K, X, h => ⟨h, rfl⟩
 | m :: r, s, K, X, h => by
  have key : ∀ q : PV × Heap × Nat, A2t Φ E r (s.set m.dst q) K X -> A2t Φ E r (s.set m.dst q) (fun s' => K s' /\ s'.n = s.n) X := by
   intro q hq
   have := C9o hq
   have e : (s.set m.dst q).n = s.n := by unfold A0b.set; cases m.dst <;> rfl
   rw [e] at this
   exact this
  simp only [A2t] at h ⊢
  cases hw : m.wants s.env with
  | none => rw [hw] at h; exact h.elim
  | some b =>
   rw [hw] at h
   cases b with
   | false => exact key _ h
   | true =>
    simp only [onWants_true] at h ⊢
    cases hp : panK E s.H s.nx m.k (m.xs.map (·.ev s.env)) with
    | some ch => rw [hp] at h; exact h
    | none =>
     rw [hp, onPan_none] at h
     rw [onPan_none]
     obtain ⟨q, hv, hk⟩ := A3f h
     rw [hv]
     exact key _ hk
theorem A7l (hΦ : Ctx P G Φ) (hE : POK P G E) : ∀ (M : A0p) {Q : Exit -> A0b -> Prop} {s : A0b}, A5g Φ E M s Q -> s.n = N -> MC P G B N M (fun e s' => Q e s' /\ E3s N e s') s
 | .skip, Q, s, h, hn => fun c hc _ => by
  rcases A1v hc with rfl | ⟨l, rfl⟩
  ·exact B8t ⟨h, fun _ => hn⟩
  ·exact B5x ⟨h, fun _ => hn⟩
 | .ops l, Q, s, h, hn => fun c hc _ => by
  obtain ⟨id, ops, rfl, ho⟩ := A1v hc
  refine C1p (A9y hΦ.sound hE _ (A4x ho) hn ?_)
  have h2 := C9o h
  have e1 : (fun s' : A0b => Q .normal s' /\ E3s N .normal s') = fun s' => Q .normal s' /\ s'.n = s.n := by
   funext s'
   refine propext ⟨fun h => ⟨h.1, by rw [hn]; exact h.2 (fun _ h => by cases h)⟩, fun h => ⟨h.1, fun _ => by rw [<- hn]; exact h.2⟩⟩
  have e2 : anyP (fun e s' => Q e s' /\ E3s N e s') = anyP Q := by
   funext ch
   refine propext ⟨fun h s => (h s).1, fun h s => ⟨h s, fun hh => absurd rfl (hh ch)⟩⟩
  rw [e1, e2]
  exact h2
 | .draw l, Q, s, h, hn => by
  obtain ⟨e, s', h1, h2⟩ := A4e (Φ := Φ) (.draw l) (Q := Q) h
  exact A9d hΦ _ h1 ⟨h2, fun _ => (A8g _ h1).trans hn⟩
 | .drawG k l, Q, s, h, hn => by
  obtain ⟨e, s', h1, h2⟩ := A4e (Φ := Φ) (.drawG k l) (Q := Q) h
  exact A9d hΦ _ h1 ⟨h2, fun _ => (A8g _ h1).trans hn⟩
 | .seq a b, Q, s, h, hn => by
  refine C9a ((A7l hΦ hE a h hn).mono fun e s1 q => ?_)
  cases e
  case normal =>
   have hs : s1.n = N := q.2 fun _ h => by cases h
   exact ⟨hs, A7l hΦ hE b q.1 hs⟩
  all_goals exact q
 | .cond c a b, Q, s, h, hn => by
  simp only [A5g] at h
  unfold B9l at h
  split at h
  ·rename_i hc
   exact A1t (t := true) hc (A7l hΦ hE a h hn)
  ·rename_i hc
   exact A1t (t := false) hc (A7l hΦ hE b h hn)
  ·exact h.elim
 | .block id b, Q, s, h, hn => by
  refine A0w ((A7l hΦ hE b h hn).mono fun e s1 q => ?_)
  cases e
  case exit i =>
   have hs : s1.n = N := q.2 fun _ h => by cases h
   have q1 := q.1
   simp only [inBlock_exit] at q1 ⊢
   split at q1
   ·rename_i hi; rw [if_pos hi]; exact ⟨q1, fun _ => hs⟩
   ·rename_i hi; rw [if_neg hi]; exact ⟨q1, fun _ => hs⟩
  all_goals exact q
 | .loop _, Q, s, h, _ => h.elim
 | .exit id, Q, s, h, hn => fun c hc _ => by
  have := A1v hc
  simp only at this
  subst this
  exact B8u ⟨h, fun _ => hn⟩
 | .ret, Q, s, h, hn => fun c hc _ => by
  have := A1v hc
  simp only at this
  subst this
  exact C2q ⟨h, fun _ => hn⟩
 | .scope b, Q, s, h, hn => by
  refine C9b ((A7l hΦ hE b h hn).mono fun e s1 q => ?_)
  cases e
  case goto l => exact q.1
  all_goals exact q
def D2k (P : Program) (G : A0t) (B : Nat) (vs : List RV) (o : Out) (e : Exit) (s : A0b) : Prop :=
 match o with
 | .ret r H nx => B2b P G B vs (fun r0 H0 nx0 => r0 = r /\ H0 = H /\ nx0 = nx) e s
 | .pan ch => e = .panic ch
theorem E5p {f : FuncId} {fn : Func} {c : Code} {M : A0p} {ps : List PV} {H : Heap} {nx : Nat} {ch : A2m} (hf : P.funcs[f]? = some fn) (hb : fn.body = some c) (hname : (fn.name == "runtime.NumGoroutine") = false)
  (hc : comp P G N c = some M) (hN : ps.length + (fn.ntmps - ps.length) = N)
  (h : MC P G nx N M (fun e _ => e = .panic ch) ⟨startsP 0 ps, H, nx, N⟩) : A8z P G f ps H nx ch [] := by
 refine ⟨⟨fn, c, hf, hb, hname⟩, fun L w us hok hnx hargs => calls_of_wp hf hb ?_⟩
 have hlen : us.size = ps.length := by simpa using hargs.length
 have hi : Interp P G nx L ⟨startsP 0 ps, H, nx, N⟩ { tmps := us ++ Array.replicate (fn.ntmps - us.size) undef, defers := [] } w := by
  refine ⟨hok, hnx, by rw [hnx]; exact Nat.le_refl _, by simp [hlen, hN], rfl, fun k p hl => ?_⟩
  simp only [B3r] at hl
  obtain ⟨_, hk⟩ := A8s _ k 0 p hl
  simp only [Nat.sub_zero] at hk
  obtain ⟨x, hx, hr⟩ := hargs.at_ k hk
  have hx' : us[k]? = some x := by simpa using hx
  have hk' : k < us.size := (Array.getElem?_eq_some_iff.1 hx').1
  rw [Array.getD_eq_getD_getElem?, Array.getElem?_append_left hk', hx']
  exact hr
 refine wp_mono (h c hc rfl L _ w hi) fun e a' w' ⟨s1, L1, q, hi1, hx, hμ⟩ => ?_
 subst q
 have hb1 : L.nx <= L1.nx := by rw [hnx]; exact hi1.base
 have hkp : B3f L.I L1.I w w' := Ext.keeps hok hx
 have hm : Mono L w { L1 with nx := L.nx } w' := ⟨hkp, Nat.le_refl _, fun b hb => hμ b (by omega), hx.size, hx.shape⟩
 refine ⟨hi1.defers, { L1 with nx := L.nx }, rfl, ⟨hi1.heap.lt, fun _ _ hb => (by cases hb), fun _ _ hb => (by cases hb), fun _ _ _ _ hb => (by cases hb), fun _ _ hb => (by cases hb), hi1.heap.glob⟩, hnx, hm, ?_⟩
 exact ⟨hx.size, hx.same, hx.more, hx.new, fun g ⟨b, r, hb, _⟩ => (by cases hb), hx.shape, hx.outer⟩
theorem FnOK.callO {f : FuncId} {k : Nat} {M : A0p} {vs : List RV} (h : FnOK P G f k N M vs) {ps : List PV} {H : Heap} {nx : Nat} {o : Out} (hk : ps.length = k)
  (hm : MC P G nx N M (D2k P G nx vs o) ⟨startsP 0 ps, H, nx, N⟩) : B7e P G f ps H nx o := by
 cases o with
 | ret r H' nx' => exact h.callP hk hm
 | pan ch =>
  obtain ⟨fn, hf, hn, hb, hr, hN⟩ := h
  cases hbody : fn.body with
  | none => rw [hbody] at hb; cases hb
  | some c =>
   rw [hbody] at hb
   exact E5p hf hbody hn hb (by rw [hk]; exact hN) hm
theorem A8z.lift1 {f : FuncId} {ty : TypeId} {cs args : List T} {ch : A2m} (h : A8z P G f (.ptr 0 0 :: args.map .t) [(0, .cells ty (cs.map .t))] 1 ch [])
  {b NX : Nat} {Hb : Heap} (hb : look Hb b = some (.cells ty (cs.map .t))) (hlt : b < NX) : A8z P G f (.ptr b 0 :: args.map .t) Hb NX ch (rem Hb b) := by
 refine ⟨h.1, fun L w us hok hnx hargs => ?_⟩
 have one : ∀ k r, look [(0, Row.cells ty (cs.map .t))] k = some r -> k = 0 /\ r = .cells ty (cs.map .t) := by
  intro k r hk
  simp only [look] at hk
  split at hk
  ·rename_i e; injection hk with hk; exact ⟨e.symm, hk.symm⟩
  ·cases hk
 have hrow := hok.rep b _ hb
 have hok0 : A1g P G ⟨L.I, fun _ => L.μ b, 1⟩ [(0, .cells ty (cs.map .t))] w := by
  refine ⟨hok.lt, fun k r hk => ?_, fun k r hk => ?_, fun k k' r r' hk hk' _ => by rw [(one k r hk).1, (one k' r' hk').1], fun k r hk => by rw [(one k r hk).1]; exact Nat.lt_succ_self _, hok.glob⟩
  ·obtain ⟨rfl, rfl⟩ := one k r hk
   obtain ⟨arr, ha, hl, hc⟩ := hrow
   refine ⟨arr, ha, hl, fun j c hj => ?_⟩
   obtain ⟨v, hv, h1, hr⟩ := hc j c hj
   refine ⟨v, hv, h1, ?_⟩
   rw [List.getElem?_map] at hj
   obtain ⟨c0, _, rfl⟩ := A0i hj
   simp only [RepV] at hr ⊢
   exact hr
  ·exact hok.apart b _ hb
 have hargs0 : A0q P ⟨L.I, fun _ => L.μ b, 1⟩ w (.ptr 0 0 :: args.map .t) us.toList := by
  simp only [A0q, RepV] at hargs ⊢
  obtain ⟨u, r, e, ⟨_, h2⟩, h3⟩ := hargs
  refine ⟨u, r, e, ⟨by omega, h2⟩, ?_⟩
  clear e
  have : ∀ (args : List T) (r : List Value), A0q P L w (args.map .t) r -> A0q P ⟨L.I, fun _ => L.μ b, 1⟩ w (args.map .t) r := by
   intro args
   induction args with
   | nil => intro r h; simpa only [List.map_nil, A0q] using h
   | cons a args ih =>
    intro r h
    simp only [List.map_cons, A0q, RepV] at h ⊢
    obtain ⟨x, xs, e, hx, hxs⟩ := h
    exact ⟨x, xs, e, hx, ih xs hxs⟩
  exact this _ _ h3
 refine (h.2 _ w us hok0 rfl hargs0).mono ?_
 rintro e w' ⟨L1, rfl, hok1, hnx1, hm, hx⟩
 have mine0 : ∀ g, Mine ⟨L.I, fun _ => L.μ b, 1⟩ [(0, Row.cells ty (cs.map .t))] g -> g = L.μ b := fun g ⟨_, _, _, e⟩ => e.symm
 have hm' : Mono L w ⟨L1.I, L.μ, NX⟩ w' := ⟨hm.keeps, by rw [hnx]; exact Nat.le_refl _, fun _ _ => rfl, hm.size, hm.shape⟩
 have hsame : ∀ k r, look (rem Hb b) k = some r -> look Hb k = some r /\ L.μ k ≠ L.μ b := by
  intro k r hk
  rw [A1s] at hk
  split at hk
  ·cases hk
  ·rename_i hne
   exact ⟨hk, fun e => hne (hok.inj k b r _ hk hb e)⟩
 refine ⟨⟨L1.I, L.μ, NX⟩, rfl, ⟨hok1.lt, fun k r hk => ?_, fun k r hk hI => ?_, fun k k' r r' hk hk' e => hok.inj k k' r r' (hsame k r hk).1 (hsame k' r' hk').1 e, fun k r hk => by rw [<- hnx]; exact hok.nx k r (hsame k r hk).1, hok1.glob⟩, rfl, hm', ?_⟩
 ·obtain ⟨hk1, hk2⟩ := hsame k r hk
  have hr := hok.rep k r hk1
  exact hr.keep hm' (hx.same _ hr.lt fun hmn => hk2 (mine0 _ hmn))
 ·obtain ⟨hk1, hk2⟩ := hsame k r hk
  have hr := (hok.rep k r hk1).lt
  rcases hx.new _ hI with h1 | h1 | h1
  ·exact hok.apart k r hk1 h1
  ·exact absurd hr (by have h' : w.heap.size <= L.μ k := h1; omega)
  ·exact hk2 (mine0 _ h1)
 ·refine ⟨hx.size, fun g hg hmn => hx.same g hg fun h0 => hmn ⟨b, _, hb, (mine0 g h0).symm⟩, hx.more, fun g hg => ?_, fun g ⟨k, r, hk, e⟩ => .inr ⟨k, r, (hsame k r hk).1, e⟩, hx.shape, hx.outer⟩
  rcases hx.new g hg with h1 | h1 | h1
  ·exact .inl h1
  ·exact .inr (.inl h1)
  ·exact .inr (.inr ⟨b, _, hb, (mine0 g h1).symm⟩)
end
section
variable {P : Program} {G : A0t} {B N : Nat} {Φ : A0u} {E : Pans} {ops : Array Oper} {l : List Mini} {π : List Nat} {pa : Nat} {R : List (Nat × Nat)}
structure E5q (Φ : A0u) (ms : List Mini) (R : List (Nat × Nat)) (s : A0b) (pe : Nat) (st : Nat -> A0b) (vals : Nat -> PV) : Prop where
 start : st 0 = s
 norm : ∀ (p : Nat) m, p < pe -> ms[p]? = some m -> Did Φ (st p) m (vals p) (st (p + 1))
 again : ∀ (p p' : Nat) m, p < pe -> p' < pe -> (p, p') ∈ R -> ms[p]? = some m -> A2a Φ (st (p' + 1)).H (st (p' + 1)).nx m.k (m.xs.map (·.ev (st p).env)) = some (vals p)
structure InvP (P : Program) (G : A0t) (B : Nat) (q : List (Nat × Mini)) (pe i0 : Nat) (st : Nat -> A0b) (vals : Nat -> PV) (s : A0b) (L0 : Loc) (w0 : World) (S : Array Bool) (p0 : Nat) (L : Loc) (a : Act) (w : World) : Prop where
 le : p0 <= pe
 notyet : S.getD i0 false = false
 bound : ∀ (p : Nat) x, q[p]? = some x -> S.getD x.1 false = true -> p < pe
 done : ∀ (p : Nat) x, q[p]? = some x -> A0h x.2.k = false -> (S.getD x.1 false = true ↔ p < p0)
 heap : A1g P G L (st p0).H w
 nx : L.nx = (st p0).nx
 base : B <= L.nx
 size : a.tmps.size = s.n
 defers : a.defers = []
 vals : ∀ (p : Nat) x, q[p]? = some x -> S.getD x.1 false = true -> ∀ k, x.2.dst = some k -> RepV P L w (vals p) (a.tmps.getD k undef)
 old : ∀ k u, (∀ (p : Nat) x, q[p]? = some x -> S.getD x.1 false = true -> x.2.dst ≠ some k) -> look s.env k = some u -> RepV P L w u (a.tmps.getD k undef)
 ext : Ext L0 s.H w0 L (st p0).H w
 μ : ∀ b, b < B -> L.μ b = L0.μ b
set_option maxHeartbeats 1000000 in
theorem B8p (hmix : P.follows .mixedOrders = true) (hΦ : Φ.Sound P G) {Q : Exit -> A0b -> Prop} {s : A0b} {st : Nat -> A0b} {vals : Nat -> PV} {id pe : Nat} {x0 : Nat × Mini} {ch : A2m}
  (ha0 : ops.toList.mapM (A4a P G N true ops) = some l) (hd0 : C0y ops l π pa 0 R = true) (hn : s.n = N)
  (hx0 : (A2b l π)[pe]? = some x0) (hlate : ∀ (p : Nat) y, pe < p -> (A2b l π)[p]? = some y -> ((ancs ops.toList []).getD y.1 0).testBit x0.1 = true) (hk0 : A0h x0.2.k = false)
  (hrun : E5q Φ ((A2b l π).map Prod.snd) R s pe st vals) (hw0 : x0.2.wants (st pe).env = some true)
  (hpan : ∀ (o : Oper) (s' : A0b), opK P G true o.op = (x0.2.k, x0.2.xs) -> s'.H = (st pe).H -> s'.nx = (st pe).nx -> x0.2.xs.map (·.ev s'.env) = x0.2.xs.map (·.ev (st pe).env) -> APan P G B o s' ch)
  (hq : anyP Q ch) : A5i P G B (.region id ops true) Q s := by
 intro L0 a0 w0 hi0
 have ha := A4x ha0
 have hlen : ops.size = l.length := by have := (ha.at_ 0).2; simpa using this
 obtain ⟨hd, hql, hnodup⟩ := B9h hlen hd0
 have h0 := hrun.start
 generalize hq' : A2b l π = q at *
 have hmem : ∀ (p : Nat) x, q[p]? = some x -> l[x.1]? = some x.2 := by intro p x hx; rw [<- hq'] at hx; exact B4i l π p x hx
 have hms : ∀ (p : Nat) x, q[p]? = some x -> (q.map Prod.snd)[p]? = some x.2 := by intro p x hx; simp [hx]
 have hpe : pe < q.length := (List.getElem?_eq_some_iff.1 hx0).1
 have step : ∀ (p : Nat) x, p < pe -> q[p]? = some x -> Did Φ (st p) x.2 (vals p) (st (p + 1)) := fun p x hp hx => hrun.norm p x.2 hp (hms p x hx)
 have uniq : ∀ (p p' : Nat) x y, q[p]? = some x -> q[p']? = some y -> x.1 = y.1 -> p = p' := by
  intro p p' x y hx hy e
  have h1 : (q.map Prod.fst)[p]? = some x.1 := by simp [hx]
  have h2 : (q.map Prod.fst)[p']? = some x.1 := by simp [hy, e]
  have hp := (List.getElem?_eq_some_iff.1 h1).1
  exact (List.getElem?_inj hp hnodup).1 (h1.trans h2.symm)
 have fresh : ∀ p, p <= pe -> C3g (st p) := by
  intro p
  induction p with
  | zero => intro _; rw [h0]; exact fun b r hb => by have := hi0.heap.nx b r hb; rw [hi0.nx] at this; exact this
  | succ p ih =>
   intro hp
   have hx : q[p]? = some q[p] := List.getElem?_eq_getElem (by omega)
   exact (B1x hΦ (step p _ (by omega) hx) (ih (by omega))).1
 -- no change of rows between
 have flat : ∀ (a b : Nat), a <= b -> b <= pe -> (∀ (p : Nat) x, a <= p -> p < b -> q[p]? = some x -> A0h x.2.k = true) -> (st b).H = (st a).H /\ (st b).nx = (st a).nx := by
  intro a b hab
  induction b with
  | zero =>
   intro _ _
   have : a = 0 := by omega
   subst this; exact ⟨rfl, rfl⟩
  | succ b ih =>
   intro hb hno
   by_cases e : a = b + 1
   ·subst e; exact ⟨rfl, rfl⟩
   ·have hx : q[b]? = some q[b] := List.getElem?_eq_getElem (by omega)
    have h1 := B1w (step b _ (by omega) hx) (hno b _ (by omega) (by omega) hx)
    have h2 := ih (by omega) (by omega) (fun p x h1 h2 h3 => hno p x h1 (by omega) h3)
    exact ⟨h1.1.trans h2.1, h1.2.trans h2.2⟩
 have nconst : ∀ p, p <= pe -> (st p).n = s.n := by
  intro p
  induction p with
  | zero => intro _; rw [h0]
  | succ p ih =>
   intro hp
   have hx : q[p]? = some q[p] := List.getElem?_eq_getElem (by omega)
   rw [(C0z (step p _ (by omega) hx)).2, ih (by omega)]
 -- what a slot holds
 have trace : ∀ (p : Nat), p <= pe -> ∀ k u, look (st p).env k = some u -> (∃ (j : Nat) (y : Nat × Mini), j < p /\ q[j]? = some y /\ y.2.dst = some k /\ u = vals j) \/ ((∀ (j : Nat) y, j < p -> q[j]? = some y -> y.2.dst ≠ some k) /\ look s.env k = some u) := by
  intro p
  induction p with
  | zero => intro _ k u hl; rw [h0] at hl; exact .inr ⟨fun j y h => by omega, hl⟩
  | succ p ih =>
   intro hp k u hl
   have hx : q[p]? = some q[p] := List.getElem?_eq_getElem (by omega)
   rw [(C0z (step p _ (by omega) hx)).1] at hl
   rcases C0t hl with ⟨e, rfl⟩ | ⟨e, hl'⟩
   ·exact .inl ⟨p, _, by omega, hx, e, rfl⟩
   ·rcases ih (by omega) k u hl' with ⟨j, y, hj, hy, hd, rfl⟩ | ⟨hno, hs⟩
    ·exact .inl ⟨j, y, by omega, hy, hd, rfl⟩
    ·refine .inr ⟨fun j y hj hy => ?_, hs⟩
     by_cases ej : j = p
     ·subst ej; rw [hx] at hy; injection hy with hy; subst hy; exact e
     ·exact hno j y (by omega) hy
 refine wp_region_any hmix ?_
 have main : ∀ (fuel : Nat) (S : Array Bool) (p0 : Nat) (L : Loc) (a : Act) (w : World), S.size = ops.size -> B9b ops S -> ops.size <= cnt S + fuel ->
   InvP P G B q pe x0.1 st vals s L0 w0 S p0 L a w -> wpAny P .any ops (Post P G B Q L0 s.H w0) fuel S a w := by
  have i0lt : x0.1 < ops.size := by have := (List.getElem?_eq_some_iff.1 (hmem pe x0 hx0)).1; omega
  intro fuel
  induction fuel with
  | zero =>
   intro S p0 L a w hs hS hc inv
   have hall' := C8y (S := S) (by omega)
   have := hall' x0.1 (by omega)
   rw [inv.notyet] at this
   cases this
  | succ fuel ih =>
   intro S p0 L a w hs hS hc inv
   refine ⟨fun hr => ?_, fun i hi => ?_⟩
   ·exfalso
    have all : ∀ i, i < ops.size -> S.getD i false = true := by
     intro i
     induction i using Nat.strongRecOn with
     | _ i ihi =>
      intro hi
      cases hS' : S.getD i false with
      | true => rfl
      | false =>
       exfalso
       have : i ∈ Region.ready .any ops S := C8x (o := ops[i]) (Array.getElem?_eq_getElem hi) (by rw [A9l (by omega)]; exact hS')
        (fun e he hb => by
         have := hd.back i _ (Array.getElem?_eq_getElem hi) e he hb
         exact ihi _ this (by omega))
       rw [hr] at this
       cases this
    have := all x0.1 i0lt
    rw [inv.notyet] at this
    cases this
   ·obtain ⟨hi1, hun, o, ho, hp⟩ := B3m hi
    rw [A9l (by omega)] at hun
    obtain ⟨p, mi, hx⟩ := hd.all i hi1
    have hpl : p < q.length := (List.getElem?_eq_some_iff.1 hx).1
    obtain ⟨mi', hmi', hcomp⟩ := (ha.at_ i).1 o (by simpa using ho)
    have emi : mi' = mi := by have := hmem p _ hx; simp only at this; rw [this] at hmi'; injection hmi' with h; exact h.symm
    subst emi
    obtain ⟨hcop, hdst, hdlt, hwants⟩ := A6l hcomp
    -- what came before is done; what waits for this one is not
    have bef : ∀ j, ((ancs ops.toList []).getD i 0).testBit j = true -> S.getD j false = true := fun j hb => A6k hS ho hb hp
    have aft : ∀ j, j < ops.size -> ((ancs ops.toList []).getD j 0).testBit i = true -> S.getD j false = false := by
     intro j hj hb
     cases hSj : S.getD j false with
     | false => rfl
     | true =>
      have hjo : ops[j]? = some ops[j] := Array.getElem?_eq_getElem hj
      have := A6k hS hjo hb (hS j _ hjo hSj)
      rw [this] at hun; cases hun
    have idx : ∀ (p' : Nat) y, q[p']? = some y -> y.1 < ops.size := fun p' y hy => by have := (List.getElem?_eq_some_iff.1 (hmem p' y hy)).1; omega
    have idx : ∀ (p' : Nat) y, q[p']? = some y -> y.1 < ops.size := fun p' y hy => by have := (List.getElem?_eq_some_iff.1 (hmem p' y hy)).1; omega
    have hple : p <= pe := by
     rcases Nat.lt_or_ge pe p with h | h
     ·have := bef x0.1 (hlate p _ h hx)
      rw [inv.notyet] at this
      cases this
     ·exact h
    have hbefore' : ∀ (p' : Nat) y, p' < p -> q[p']? = some y -> A0h y.2.k = false -> p' < p0 := by
     intro p' y hlt hy hyk
     refine (inv.done p' y hy hyk).1 (bef _ ?_)
     have hok := hd.pair p' p _ _ hlt hy hx
     unfold A4m at hok
     simp only [Bool.and_eq_true] at hok
     have h1 := hok.1.1.1
     rw [hyk] at h1
     simp only [Bool.false_and, Bool.false_or, Bool.or_eq_true, Bool.and_eq_true, decide_eq_true_eq] at h1
     rcases h1 with h1 | h1
     ·exact h1
     ·omega
    -- the slots that it looks at
    have eye : ∀ k u, k ∈ mi'.eyes -> look (st p).env k = some u -> RepV P L w u (a.tmps.getD k undef) := by
     intro k' u hke hl
     rcases trace p hple k' u hl with ⟨j, y, hj, hy, hdj, rfl⟩ | ⟨hno, hs'⟩
     ·have hok := hd.pair j p _ _ hj hy hx
      unfold A4m at hok
      simp only [Bool.and_eq_true] at hok
      have h2 := hok.1.1.2
      rw [hdj] at h2
      simp only [Bool.or_eq_true, Bool.not_eq_true', Bool.and_eq_true] at h2
      rcases h2 with h2 | ⟨h2, h3⟩
      ·exact absurd hke (by simpa using h2)
      ·exact inv.vals j _ hy (bef _ h2) k' hdj
     ·refine inv.old k' u (fun p' y hy hSy hdy => ?_) hs'
      rcases Nat.lt_trichotomy p' p with hlt | heq | hgt
      ·exact hno p' y hlt hy hdy
      ·subst heq
       rw [hx] at hy; injection hy with hy; subst hy
       simp only at hSy
       rw [hSy] at hun; cases hun
      ·have hok := hd.pair p p' _ _ hgt hx hy
       unfold A4m at hok
       simp only [Bool.and_eq_true] at hok
       have h3 := hok.1.2
       rw [hdy] at h3
       simp only [Bool.or_eq_true, Bool.not_eq_true'] at h3
       rcases h3 with h3 | h3
       ·exact absurd hke (by simpa using h3)
       ·have := aft y.1 (idx p' y hy) h3
        rw [this] at hSy; cases hSy
    -- its value at the rows as they stand
    have hi' : Interp P G B L ({ ((st p).only mi'.eyes) with H := (st p0).H, nx := (st p0).nx } : A0b) a w := by
     refine ⟨inv.heap, inv.nx, inv.base, by show a.tmps.size = (st p).n; rw [nconst p hple]; exact inv.size, inv.defers, fun k u hl => ?_⟩
     have hl' : look ((st p).only mi'.eyes).env k = some u := hl
     rw [A9j] at hl'
     split at hl'
     ·rename_i hke; exact eye k u hke hl'
     ·cases hl'
    have hww : ({ ((st p).only mi'.eyes) with H := (st p0).H, nx := (st p0).nx } : A0b).wants ops o = mi'.wants (st p).env := by
     rw [hwants]; exact B9e (st p) mi' mi'.eyes (fun _ h => h)
    have hev : mi'.xs.map (·.ev ({ ((st p).only mi'.eyes) with H := (st p0).H, nx := (st p0).nx } : A0b).env) = mi'.xs.map (·.ev (st p).env) := D4k (st p) mi' mi'.eyes (fun _ h => h)
    unfold wpOp
    rw [ho]
    simp only
    by_cases hpp : p = pe
    ·
     subst hpp
     rw [hx] at hx0
     injection hx0 with hx0
     subst hx0
     have hf := flat p0 p (by
      rcases Nat.lt_or_ge p p0 with h | h
      ·have := inv.le; omega
      ·exact h) (Nat.le_refl _) (fun p' y h1 h2 h3 => by
      cases hyk : A0h y.2.k with
      | true => rfl
      | false => have := hbefore' p' y h2 h3 hyk; omega)
     rw [if_pos (hi'.wants (hww.trans hw0))]
     have hap := hpan o ({ ((st p).only mi'.eyes) with H := (st p0).H, nx := (st p0).nx } : A0b) hcop hf.1.symm hf.2.symm hev L a w hi'
     refine .inl (A2d (fun _ _ h => h.elim) ?_ hap)
     rintro e a' w' ⟨rfl, rfl, L', h1, h2, h3, h4⟩
     refine ⟨⟨[], [], L'.nx, s.n⟩, L', hq _, ⟨h1, rfl, Nat.le_trans inv.base (by rw [h2]; exact Nat.le_of_eq inv.nx), inv.size, inv.defers, fun k p hl => by cases hl⟩, inv.ext.trans h4, fun b hb => (h3.μ b (Nat.lt_of_lt_of_le hb inv.base)).trans (inv.μ b hb)⟩
    have hplt : p < pe := by omega
    have hS' : B9b ops (S.setIfInBounds i true) := by
     intro j oj hoj hj e he hb
     rw [A2z S i _ (by omega)] at hj ⊢
     split
     ·rfl
     ·split at hj
      ·rename_i e1
       subst e1
       rw [ho] at hoj
       injection hoj with hoj
       subst hoj
       exact hp e he hb
      ·exact hS j oj hoj hj e he hb
    have hc' : ops.size <= cnt (S.setIfInBounds i true) + fuel := by rw [D4m (by omega) hun]; omega
    have dsts : ∀ (p' : Nat) y k', q[p']? = some y -> i ≠ y.1 -> y.2.dst = some k' -> o.dst ≠ some k' := by
     intro p' y k' hy e hk
     rw [<- hdst]
     intro hcon
     have epn : p ≠ p' := fun ep => by subst ep; rw [hx] at hy; injection hy with hy; subst hy; exact e rfl
     rcases Nat.lt_or_gt_of_ne epn with hlt | hgt
     ·have hok := hd.pair p p' _ _ hlt hx hy
      unfold A4m at hok
      simp only [Bool.and_eq_true] at hok
      have h4 := hok.2
      rw [hcon] at h4
      simp only [bne_iff_ne] at h4
      exact h4 hk
     ·have hok := hd.pair p' p _ _ hgt hy hx
      unfold A4m at hok
      simp only [Bool.and_eq_true] at hok
      have h4 := hok.2
      rw [hk] at h4
      simp only [bne_iff_ne] at h4
      exact h4 hcon
    have ine : i ≠ x0.1 := fun e => hpp (uniq p pe _ _ hx hx0 e)
    have next : ∀ (p1 : Nat) (L' : Loc) (w' : World) (u : Value), p1 <= pe ->
      (∀ (p' : Nat) y, q[p']? = some y -> A0h y.2.k = false -> ((S.setIfInBounds i true).getD y.1 false = true ↔ p' < p1)) ->
      RepV P L' w' (vals p) u -> A1g P G L' (st p1).H w' -> L'.nx = (st p1).nx -> Mono L w L' w' -> Ext L (st p0).H w L' (st p1).H w' ->
      wpAny P .any ops (Post P G B Q L0 s.H w0) fuel (S.setIfInBounds i true) (a.put o.dst u) w' := by
     intro p1 L' w' u hp1 hdone hru hok' hnx' hm' hx'
     refine ih _ p1 L' _ w' (by simpa using hs) hS' hc' ⟨hp1, ?_, fun p' y hy hSy => ?_, hdone, hok', hnx', Nat.le_trans inv.base hm'.nx, ?_, ?_, ?_, ?_, inv.ext.trans hx', fun b hb => (hm'.μ b (Nat.lt_of_lt_of_le hb inv.base)).trans (inv.μ b hb)⟩
     ·rw [A2z S i _ (by omega), if_neg ine]; exact inv.notyet
     ·rw [A2z S i _ (by omega)] at hSy
      split at hSy
      ·rename_i e
       have ep := uniq p p' _ _ hx hy e
       omega
      ·exact inv.bound p' y hy hSy
     ·rw [<- inv.size]; cases o.dst <;> simp [Act.put]
     ·cases o.dst <;> simp [Act.put, inv.defers]
     ·intro p' y hy hSy k' hk
      rw [A6j]
      by_cases e : i = y.1
      ·have ep := uniq p p' _ _ hx hy e
       subst ep
       rw [hx] at hy; injection hy with hy; subst hy
       rw [if_pos ⟨by rw [<- hdst]; exact hk, by rw [inv.size, hn]; exact hdlt k' (by rw [<- hdst]; exact hk)⟩]
       exact hru
      ·rw [A2z S i _ (by omega), if_neg e] at hSy
       rw [if_neg (fun h => dsts p' y k' hy e hk h.1)]
       exact RepV.keep hm' _ (inv.vals p' y hy hSy k' hk)
     ·intro k' u' hno h0'
      rw [A6j]
      have hk := hno p _ hx (by rw [A2z S i _ (by omega), if_pos rfl])
      rw [if_neg (fun h => hk (by rw [hdst]; exact h.1))]
      refine RepV.keep hm' u' (inv.old k' u' (fun p' y hy hSy => hno p' y hy ?_) h0')
      rw [A2z S i _ (by omega)]
      split
      ·rfl
      ·exact hSy
    have keepdone : A0h mi'.k = true -> ∀ (p' : Nat) y, q[p']? = some y -> A0h y.2.k = false -> ((S.setIfInBounds i true).getD y.1 false = true ↔ p' < p0) := by
     intro hquiet p' y hy hyk
     rw [A2z S i _ (by omega)]
     by_cases e : i = y.1
     ·have ep := uniq p p' _ _ hx hy e
      subst ep
      rw [hx] at hy; injection hy with hy; subst hy
      rw [hquiet] at hyk; cases hyk
     ·rw [if_neg e]; exact inv.done p' y hy hyk
    have hdid := step p _ hplt hx
    simp only at hdid
    rcases hdid with ⟨hquiet, hval, hst⟩ | ⟨hheavy, hwf, hv, hst⟩ | ⟨hheavy, hwt, H', nx', hek, hst⟩
    ·unfold valQ at hval
     split at hval
     ·rename_i hwt
      rw [if_pos (hi'.wants (hww.trans hwt))]
      have hval0 : A2a Φ (st p0).H (st p0).nx mi'.k (mi'.xs.map (·.ev (st p).env)) = some (vals p) := by
       by_cases hpp : p0 <= p
       ·have hf := flat p0 p hpp hple (fun p' y h1 h2 h3 => by
         cases hyk : A0h y.2.k with
         | true => rfl
         | false => have := hbefore' p' y h2 h3 hyk; omega)
        rw [<- hf.1, <- hf.2]; exact hval
       ·have walk : ∀ p1, p <= p1 -> p1 <= p0 -> A2a Φ (st p1).H (st p1).nx mi'.k (mi'.xs.map (·.ev (st p).env)) = some (vals p) := by
         intro p1
         induction p1 with
         | zero =>
          intro h _
          have : p = 0 := by omega
          subst this; exact hval
         | succ p1 ihp =>
          intro h1 h2
          by_cases e : p = p1 + 1
          ·subst e; exact hval
          ·have hv1 := ihp (by omega) (by omega)
           have hle := inv.le
           have hy : q[p1]? = some q[p1] := List.getElem?_eq_getElem (by omega)
           have hdy := step p1 _ (by omega) hy
           cases hyk : A0h (q[p1]).2.k with
           | true =>
            have := B1w hdy hyk
            rw [this.1, this.2]; exact hv1
           | false =>
            by_cases hind : B1u mi'.k = true
            ·exact B0w hind hv1
            ·have hlt : p < p1 := by
              rcases Nat.lt_or_ge p p1 with h | h
              ·exact h
              ·have : p1 = p := by omega
               subst this
               rw [hx] at hy; injection hy with hy
               rw [<- hy] at hyk
               simp only at hyk
               rw [hquiet] at hyk; cases hyk
             have hSy := (inv.done p1 _ hy hyk).2 (by omega)
             have hok := hd.pair p p1 _ _ hlt hx hy
             unfold A4m at hok
             simp only [Bool.and_eq_true] at hok
             have h1' := hok.1.1.1
             simp only [hquiet, hyk, Bool.true_and, Bool.false_or, Bool.or_eq_true, Bool.and_eq_true, decide_eq_true_eq] at h1'
             rcases h1' with (((h | h) | h) | h) | h
             ·exact absurd h hind
             ·exact B0h ((B1x hΦ hdy (fresh p1 (by omega))).2 (.inl h)) hv1
             ·exact hrun.again p p1 mi' hplt (by omega) (by simpa using h) (hms p _ hx)
             ·have := aft _ (idx p1 _ hy) h
              rw [this] at hSy; cases hSy
             ·omega
        exact walk p0 (by omega) (Nat.le_refl _)
      have hek' : A0d Φ ({ ((st p).only mi'.eyes) with H := (st p0).H, nx := (st p0).nx } : A0b).H ({ ((st p).only mi'.eyes) with H := (st p0).H, nx := (st p0).nx } : A0b).nx mi'.k (mi'.xs.map (·.ev ({ ((st p).only mi'.eyes) with H := (st p0).H, nx := (st p0).nx } : A0b).env)) = some (vals p, (st p0).H, (st p0).nx) := by
       rw [hev]; exact B6f hval0
      have haop := B0v (B := B) hΦ hcop hek' L a w hi'
      refine .inl (A2d ?_ (fun _ _ _ h => h.elim) haop)
      rintro a' w' ⟨u, L', rfl, hru, hok', hnx', hm', hx'⟩
      exact next p0 L' w' u inv.le (keepdone hquiet) hru hok' hnx' hm' hx'
     ·rename_i hwf
      rw [if_neg (by rw [hi'.wants (hww.trans hwf)]; simp)]
      injection hval with hval
      exact next p0 L w undef inv.le (keepdone hquiet) (by rw [<- hval]; simp only [RepV, RepT]) inv.heap inv.nx (Mono.refl _ _) (Ext.refl _ _ _)
     ·cases hval
    all_goals
     have hp0p : p0 <= p := by
      rcases Nat.lt_or_ge p p0 with h | h
      ·have := (inv.done p _ hx hheavy).2 h
       simp only at this
       rw [this] at hun; cases hun
      ·exact h
     have hf := flat p0 p hp0p hple (fun p' y h1 h2 h3 => by
      cases hyk : A0h y.2.k with
      | true => rfl
      | false => have := hbefore' p' y h2 h3 hyk; omega)
     have hdone' : ∀ (p' : Nat) y, q[p']? = some y -> A0h y.2.k = false -> ((S.setIfInBounds i true).getD y.1 false = true ↔ p' < p + 1) := by
      intro p' y hy hyk
      rw [A2z S i _ (by omega)]
      by_cases e : i = y.1
      ·have ep := uniq p p' _ _ hx hy e
       subst ep
       simp [e]
      ·rw [if_neg e, inv.done p' y hy hyk]
       constructor
       ·intro h; omega
       ·intro h
        have : p' ≠ p := fun ep => by subst ep; rw [hx] at hy; injection hy with hy; subst hy; exact e rfl
        exact hbefore' p' y (by omega) hy hyk
    ·rw [if_neg (by rw [hi'.wants (hww.trans hwf)]; simp)]
     have e1 : (st (p + 1)).H = (st p0).H := by rw [hst, A9g, hf.1]
     have e2 : (st (p + 1)).nx = (st p0).nx := by rw [hst, A9c, hf.2]
     exact next (p + 1) L w undef (by omega) hdone' (by rw [hv]; simp only [RepV, RepT]) (by rw [e1]; exact inv.heap) (by rw [e2]; exact inv.nx) (Mono.refl _ _) (by rw [e1]; exact Ext.refl _ _ _)
    ·rw [if_pos (hi'.wants (hww.trans hwt))]
     have hek' : A0d Φ ({ ((st p).only mi'.eyes) with H := (st p0).H, nx := (st p0).nx } : A0b).H ({ ((st p).only mi'.eyes) with H := (st p0).H, nx := (st p0).nx } : A0b).nx mi'.k (mi'.xs.map (·.ev ({ ((st p).only mi'.eyes) with H := (st p0).H, nx := (st p0).nx } : A0b).env)) = some (vals p, H', nx') := by
      rw [hev]
      show A0d Φ (st p0).H (st p0).nx mi'.k _ = _
      rw [<- hf.1, <- hf.2]; exact hek
     have haop := B0v (B := B) hΦ hcop hek' L a w hi'
     refine .inl (A2d ?_ (fun _ _ _ h => h.elim) haop)
     rintro a' w' ⟨u, L', rfl, hru, hok', hnx', hm', hx'⟩
     have e1 : (st (p + 1)).H = H' := by rw [hst, A9g]
     have e2 : (st (p + 1)).nx = nx' := by rw [hst, A9c]
     exact next (p + 1) L' w' u (by omega) hdone' hru (by rw [e1]; exact hok') (by rw [e2]; exact hnx') hm' (by rw [e1]; exact hx')
 obtain ⟨hok, hm, hx⟩ := hi0.heap.of_heap (w' := { w0 with drawn := w0.drawn + 1 }) ⟨rfl, rfl, rfl⟩ rfl
 have hfalse : ∀ i, (Array.replicate ops.size false).getD i false = false := by
  intro i
  simp only [Array.getD_eq_getD_getElem?, Array.getElem?_replicate]
  split <;> rfl
 refine main ops.size _ 0 L0 a0 _ (by simp) ?_ (by omega) ⟨Nat.zero_le _, hfalse _, fun p x _ h => (by rw [hfalse] at h; cases h), ?_, by rw [h0]; exact hok, by rw [h0]; exact hi0.nx, hi0.base, hi0.size, hi0.defers, ?_, ?_, by rw [h0]; exact hx, fun _ _ => rfl⟩
 ·intro i o _ h; rw [hfalse] at h; cases h
 ·intro p x _ _; rw [hfalse]; simp
 ·intro p x _ h; rw [hfalse] at h; cases h
 ·intro k u _ hu
  exact RepV.keep hm u (hi0.env k u hu)
end
end Go.Abs
