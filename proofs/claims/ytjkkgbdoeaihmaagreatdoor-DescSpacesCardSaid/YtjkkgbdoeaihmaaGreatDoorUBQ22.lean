/-
 Auxiliary facts. No statement of the program stands here.
-/
import Derived.Test.YtjkkgbdoeaihmaaGreatDoorUBQ21
import Derived.Test.YtjkkgbdoeaihmaaGreatDoorUBQ16
import Derived.Test.YtjkkgbdoeaihmaaGreatDoorUBQ12
namespace Go.Proofs.YtjkkgbdoeaihmaaGreatDoor
set_option linter.unusedSimpArgs false
set_option linter.unusedVariables false
open Go Go.Abs
structure Tok where
 k : Int
 t : List UInt8
 l : Nat
def eTok : Enc Tok := ⟨3, fun t => [iv t.k, sv (bs t.t), iv (t.l : Int)], fun _ => rfl, by omega, fun a b h => by
 obtain ⟨k, t, l⟩ := a
 obtain ⟨k', t', l'⟩ := b
 injection h with h1 h2
 injection h2 with h2 h3
 injection h3 with h3
 injection h1 with h1; injection h1 with _ h1
 injection h2 with h2; injection h2 with h2
 injection h3 with h3; injection h3 with _ h3
 have h2' : t = t' := by
  have := congrArg (fun b : ByteArray => b.data.toList) h2
  simpa using this
 simp only at h1 h3
 have h3' : l = l' := by omega
 rw [h1, h2', h3']⟩
def scanG : Nat → List UInt8 → Nat → Except (Nat × Int) (List Tok)
 | 0, _, _ => .ok []
 | f + 1, D, l =>
  if D.isEmpty then .ok []
  else if (nextS D).e ≠ 0 then .error (l, (nextS D).e)
  else match scanG f ((D.drop (nextS D).n).drop (skipS false (D.drop (nextS D).n)).1) (l + (skipS false (D.drop (nextS D).n)).2) with
   | .error x => .error x
   | .ok ts => .ok (⟨(nextS D).k, (nextS D).t, l⟩ :: ts)
def scanS (D : List UInt8) (l : Nat) : Except (Nat × Int) (List Tok) := scanG (D.length + 1) (D.drop (skipS false D).1) (l + (skipS false D).2)
def ahead (out : List Tok) : Except (Nat × Int) (List Tok) → Except (Nat × Int) (List Tok)
 | .error x => .error x
 | .ok ts => .ok (out ++ ts)
theorem ahead_nil (r : Except (Nat × Int) (List Tok)) : ahead [] r = r := by cases r <;> rfl
theorem skip_nl : ∀ (l : List UInt8) (cm : Bool), (skipS cm l).2 ≤ (skipS cm l).1
 | [], _ => by simp [skipS]
 | c :: r, cm => by
  have h1 := skip_nl r false
  have h2 := skip_nl r true
  rw [skipS]
  split
  ·simp; omega
  ·split
   ·simp; omega
   ·split
    ·simp; omega
    ·simp
theorem run_pos (big : Bool) (c : UInt8) (r : List UInt8) (h : isPart big c = true) : 1 ≤ runN big (c :: r) := by
 unfold runN
 rw [List.takeWhile_cons, if_pos h]
 simp
theorem next_pos (D : List UInt8) (h0 : D.isEmpty = false) (he : (nextS D).e = 0) : 1 ≤ (nextS D).n ∧ (nextS D).n ≤ D.length := by
 cases D with
 | nil => cases h0
 | cons c r =>
  rw [nextS] at he ⊢
  by_cases t1 : isLow c = true
  ·rw [if_pos t1]
   exact ⟨run_pos false c r (by rw [isPart_eq]; simp [t1]), runN_le _ _⟩
  ·rw [if_neg t1] at he ⊢
   by_cases t2 : isUp c = true
   ·rw [if_pos t2]
    exact ⟨run_pos true c r (by rw [isPart_eq]; simp [t2]), runN_le _ _⟩
   ·rw [if_neg t2] at he ⊢
    by_cases t3 : (isDig c || decide (c.toNat = 45)) = true
    ·rw [if_pos t3]
     refine ⟨?_, figN_le _⟩
     show 1 ≤ figN (c :: r)
     unfold figN minN
     by_cases h45 : c = 45
     ·subst h45; simp
     ·have hd : isDig c = true := by
       rcases Bool.or_eq_true_iff.1 t3 with h | h
       ·exact h
       ·exact absurd (UInt8.toNat_inj.1 (by have := of_decide_eq_true h; show c.toNat = 45; omega)) h45
      have : ((c :: r).head? == some 45) = false := by simpa using h45
      rw [this]
      simp [List.takeWhile_cons, hd]
    ·rw [if_neg t3] at he ⊢
     by_cases t4 : c.toNat = 34
     ·rw [if_pos t4] at he ⊢
      obtain ⟨q1, q2, q3⟩ := quoN_le ((c :: r).drop 1)
      have he' : (quoN ((c :: r).drop 1)).2 = 0 := he
      have := q2 he'
      simp only [he', if_true]
      simp at this ⊢
      omega
     ·rw [if_neg t4] at he ⊢
      have he' : (symS (c :: r)).2 = 0 := he
      show 1 ≤ (symS (c :: r)).1 ∧ (symS (c :: r)).1 ≤ (c :: r).length
      unfold symS at he' ⊢
      split
      ·rename_i h
       refine ⟨by omega, ?_⟩
       rcases Bool.or_eq_true_iff.1 h with h | h
       ·have := (List.isPrefixOf_iff_prefix.1 h).length_le; simpa using this
       ·have := (List.isPrefixOf_iff_prefix.1 h).length_le; simpa using this
      ·rename_i h
       rw [if_neg h] at he'
       split
       ·simp
       ·rename_i h2
        rw [if_neg h2] at he'
        cases he'
abbrev KT := Int × List UInt8
abbrev Res (α : Type) := Except Int (α × Nat)
section
variable (l : List KT)
def isSy (p : Nat) (s : List UInt8) : Bool := match l[p]? with
 | some t => decide (t.1 = 5) && decide (t.2 = s)
 | none => false
def takeK (p : Nat) (k : Int) : Res ByteArray := match l[p]? with
 | none => .error 9
 | some t => if t.1 = k then .ok (bs t.2, p + 1) else .error 8
def skipK (p : Nat) (s : List UInt8) : Except Int Nat := if l.length ≤ p then .error 9 else if isSy l p s then .ok (p + 1) else .error 8
def pathS : Nat → Nat → List ByteArray → Res (List ByteArray)
 | 0, _, _ => .error 0
 | f + 1, p, path => if isSy l p [46] then (if 64 ≤ path.length then .error 7 else match takeK l (p + 1) 2 with
   | .error e => .error e
   | .ok (s, p') => pathS f p' (path ++ [s])) else .ok (path, p)
def pairS (rec : Nat → Res Ds) (p : Nat) : Res Ds := match takeK l p 2 with
 | .error e => .error e
 | .ok (s, p1) => match pathS l (l.length + 1) p1 [s] with
  | .error e => .error e
  | .ok (path, p2) => match rec p2 with
   | .error e => .error e
   | .ok (d, p3) => .ok (.mk 5 ⟨#[]⟩ path [d], p3)
def brS (rec : Nat → Res Ds) : Nat → Nat → List Ds → Res (List Ds)
 | 0, _, _ => .error 0
 | f + 1, p, parts => match pairS l rec p with
  | .error e => .error e
  | .ok (d, p1) => if isSy l p1 [44] then (if 256 ≤ parts.length + 1 then .error 7 else brS rec f (p1 + 1) (parts ++ [d])) else match skipK l p1 [93] with
   | .error e => .error e
   | .ok p2 => .ok (parts ++ [d], p2)
def itS (rec : Nat → Res Ds) : Nat → Nat → List Ds → Res (List Ds)
 | 0, _, _ => .error 0
 | f + 1, p, kids => if isSy l p [44] then (if 256 ≤ kids.length then .error 7 else match rec (p + 1) with
   | .error e => .error e
   | .ok (d, p') => itS rec f p' (kids ++ [d])) else .ok (kids, p)
def closeS (s : List UInt8) (op : Int) (kids : List Ds) (p : Nat) : Res Ds := match skipK l p s with
 | .error e => .error e
 | .ok p' => .ok (.mk op ⟨#[]⟩ [] kids, p')
def lstS (rec : Nat → Res Ds) (p : Nat) : Res Ds :=
 if l.length ≤ p then .error 9 else if isSy l p [62] then closeS l [62] 6 [] p else match rec p with
 | .error e => .error e
 | .ok (d, p1) => match itS l rec (l.length + 1) p1 [d] with
  | .error e => .error e
  | .ok (kids, p2) => if isSy l p2 [124] then (if 256 ≤ kids.length then .error 7 else match rec (p2 + 1) with
    | .error e => .error e
    | .ok (d', p3) => closeS l [62] 7 (kids ++ [d']) p3)
   else closeS l [62] 6 kids p2
def dffS (rec : Nat → Res Ds) (p : Nat) : Res Ds :=
 if l.length ≤ p then .error 9 else if isSy l p [33, 62] then closeS l [33, 62] 8 [] p else match rec p with
 | .error e => .error e
 | .ok (d, p1) => match itS l rec (l.length + 1) p1 [d] with
  | .error e => .error e
  | .ok (kids, p2) => closeS l [33, 62] 8 kids p2
def moreS (parts : List Ds) : Res Ds → Res (List Ds)
 | .error e => .error e
 | .ok (d, p) => .ok (parts ++ [d], p)
def nameS (op : Int) : Res ByteArray → Res Ds
 | .error e => .error e
 | .ok (s, p) => .ok (.mk op s [] [], p)
def termS (rec : Nat → Res Ds) (p : Nat) (parts : List Ds) : Res (List Ds) := match l[p]? with
 | none => .error 9
 | some t =>
  if t.1 = 1 then .ok (parts ++ [.mk 1 (bs t.2) [] []], p + 1)
  else if t.1 ≠ 5 then .error 8
  else if t.2 = [64] then moreS parts (nameS 2 (takeK l (p + 1) 1))
  else if t.2 = [35] then moreS parts (nameS 3 (takeK l (p + 1) 1))
  else if t.2 = [91] then brS l rec (l.length + 1) (p + 1) parts
  else if t.2 = [60] then moreS parts (lstS l rec (p + 1))
  else if t.2 = [60, 33] then moreS parts (dffS l rec (p + 1))
  else .error 8
def andS (rec : Nat → Res Ds) : Nat → Nat → List Ds → Res (List Ds)
 | 0, _, _ => .error 0
 | f + 1, p, parts => if isSy l p [38] then (if 256 ≤ parts.length then .error 7 else match termS l rec (p + 1) parts with
   | .error e => .error e
   | .ok (parts', p') => andS rec f p' parts') else .ok (parts, p)
def oneS (parts : List Ds) : Ds := match parts with
 | [d] => d
 | parts => .mk 4 ⟨#[]⟩ [] parts
def desS : Nat → Nat → Res Ds
 | 0, p => if l.length ≤ p then .error 9 else .error 7
 | n + 1, p => if l.length ≤ p then .error 9 else match termS l (desS n) p [] with
  | .error e => .error e
  | .ok (parts, p1) => match andS l (desS n) (l.length + 1) p1 parts with
   | .error e => .error e
   | .ok (parts', p2) => .ok (oneS parts', p2)
end
end Go.Proofs.YtjkkgbdoeaihmaaGreatDoor
namespace Go.Abs
set_option linter.unusedSimpArgs false
set_option linter.unusedVariables false
open Go
def innerC : PV → List Nat
 | .row b _ _ _ => [b]
 | _ => []
def shares : List Nat := []
def given (m : Mini) (s : AState) : List Nat := match m.k with
 | .call f => if shares.contains f then m.xs.flatMap (fun x => innerC (x.ev s.env)) else []
 | _ => []
section
variable {P : Program} {G : Globs} {B N : Nat} {Φ : Oracle}
end
abbrev Chain := List PanicEntry
def CallE (P : Program) (G : Globs) (f : FuncId) (ps : List PV) (H : Heap) (nx : Nat) (ch : Chain) (H' : Heap) : Prop :=
 IsFn P f ∧ ∀ (L : Loc) (w : World) (us : Array Value), HeapOK P G L H w → L.nx = nx → RepVL P L w ps us.toList →
  Calls P f us w fun e w' => ∃ L', e = .panicked ch ∧ HeapOK P G L' H' w' ∧ L'.nx = nx ∧ Mono L w L' w' ∧ Ext L H w L' H' w'
inductive Out where
 | ret (r : PV) (H : Heap) (nx : Nat)
 | pan (ch : Chain)
def CallO (P : Program) (G : Globs) (f : FuncId) (ps : List PV) (H : Heap) (nx : Nat) : Out → Prop
 | .ret r H' nx' => CallP P G f ps H nx r H' nx'
 | .pan ch => CallE P G f ps H nx ch []
abbrev Pans := FuncId → List PV → Heap → Nat → Option Chain
def POK (P : Program) (G : Globs) (E : Pans) : Prop := ∀ f ps H nx ch, E f ps H nx = some ch → CallE P G f ps H nx ch []
def chainOf : List PV → Option Chain
 | [.t (.ic t (.v x))] => some [{ v := .iface t x, recovered := false }]
 | _ => none
def panK (E : Pans) (H : Heap) (nx : Nat) (k : MK) (ps : List PV) : Option Chain :=
 match k with
 | .hcall f => E f ps H nx
 | .hx .pan => chainOf ps
 | _ => none
def onPan (x : Option Chain) (X : Chain → Prop) (C : Prop) : Prop :=
 match x with
 | some ch => X ch
 | none => C
@[simp] theorem onPan_some (ch : Chain) (X : Chain → Prop) (C : Prop) : onPan (some ch) X C = X ch := rfl
@[simp] theorem onPan_none (X : Chain → Prop) (C : Prop) : onPan none X C = C := rfl
def runsLE (Φ : Oracle) (E : Pans) : List Mini → AState → (AState → Prop) → (Chain → Prop) → Prop
 | [], s, K, _ => K s
 | m :: r, s, K, X => onWants (m.wants s.env)
   (onPan (panK E s.H s.nx m.k (m.xs.map (·.ev s.env))) X (ifSome (evalK Φ s.H s.nx m.k (m.xs.map (·.ev s.env))) fun q => runsLE Φ E r (s.set m.dst q) K X))
   (runsLE Φ E r (s.set m.dst (.t (.v undef), s.H, s.nx)) K X)
def anyP (Q : Exit → AState → Prop) (ch : Chain) : Prop := ∀ s, Q (.panic ch) s
def runsE (Φ : Oracle) (E : Pans) : MCode → AState → (Exit → AState → Prop) → Prop
 | .skip, s, Q => Q .normal s
 | .ops l, s, Q => runsLE Φ E l s (Q .normal) (anyP Q)
 | .draw l, s, Q => runsD Φ l s (Q .normal)
 | .drawG k l, s, Q => runsG Φ k 0 0 [] l s (Q .normal)
 | .seq a b, s, Q => runsE Φ E a s (onNormal (fun s1 => runsE Φ E b s1 Q) Q)
 | .cond c a b, s, Q => onBool (c.ev s.env) (runsE Φ E a s Q) (runsE Φ E b s Q)
 | .block id b, s, Q => runsE Φ E b s (InBlock id Q)
 | .loop _, _, _ => False
 | .exit id, s, Q => Q (.exit id) s
 | .ret, s, Q => Q .ret s
 | .scope b, s, Q => runsE Φ E b s (NoGoto Q)
section
variable {P : Program} {G : Globs} {B N : Nat} {Φ : Oracle} {E : Pans} {Q : Exit → AState → Prop} {s : AState}
def APan (P : Program) (G : Globs) (B : Nat) (o : Oper) (s : AState) (ch : Chain) : Prop :=
 ∀ L a w, Interp P G B L s a w → o.wp P a w (fun _ _ => False) (fun e a' w' => e = .panic ch ∧ a' = a ∧ ∃ L', HeapOK P G L' [] w' ∧ L'.nx = s.nx ∧ Mono L w L' w' ∧ Ext L s.H w L' [] w')
theorem rows_none {L : Loc} {H : Heap} {w : World} (h : HeapOK P G L H w) : HeapOK P G L [] w ∧ Ext L H w L [] w :=
 ⟨⟨h.lt, fun _ _ hb => (by cases hb), fun _ _ hb => (by cases hb), fun _ _ _ _ hb => (by cases hb), fun _ _ hb => (by cases hb), h.glob⟩,
  ⟨Nat.le_refl _, fun _ _ _ => rfl, fun _ h => h, fun _ h => .inl h, fun _ ⟨_, _, hb, _⟩ => (by cases hb), Shapes.refl w, Outer.refl w⟩⟩
theorem apan_call {o : Oper} {f : FuncId} {args : Array Operand} {ts : Array TypeId} {ch : Chain} (ho : o.op = .call ⟨.value (.func f), args, ts⟩) (hc : CallE P G f (args.toList.map (s.ev G)) s.H s.nx ch []) : APan P G B o s ch := fun L a w hi => by
 unfold Oper.wp
 have hr : (execOp a.eval o).run P w = .ok (.enter f (args.map a.eval)) w := by simp [execOp, ho, resolve, Act.eval, Deferred.ofValue, invoke, hc.1.run]
 rw [hr, Oper.upon_enter]
 refine (hc.2 L w _ hi.heap hi.nx (rep_args hi args)).mono ?_
 rintro e w' ⟨L', rfl, h1, h2, h3, h4⟩
 exact ⟨rfl, rfl, L', h1, h2, h3, h4⟩
theorem apan_own {o : Oper} {x : Operand} {ch : Chain} (ho : o.op = .panic x) (hc : chainOf [s.ev G x] = some ch) : APan P G B o s ch := fun L a w hi => by
 have h := hi.ev x
 generalize s.ev G x = p at h hc
 unfold chainOf at hc
 split at hc
 ·rename_i t v e
  injection e with e e2
  subst e
  injection hc with hc
  subst hc
  simp only [RepV, RepT] at h
  obtain ⟨y, hy, rfl⟩ := h
  unfold Oper.wp
  have hr : (execOp a.eval o).run P w = .halt (.panic (.iface t y)) w := by
   simp [execOp, ho, hy, Instr.panic, goPanic]
  rw [hr]
  exact ⟨rfl, rfl, L, (rows_none hi.heap).1, hi.nx, Mono.refl L w, (rows_none hi.heap).2⟩
 ·cases hc
def AOpsX (P : Program) (G : Globs) (B : Nat) (ops : Array Oper) (l : List Oper) (Q : Exit → AState → Prop) (s : AState) : Prop :=
 ∀ L a w, Interp P G B L s a w → wpList P ops (Post P G B Q L s.H w) l a w
theorem wpList_later {ops : Array Oper} {L L' : Loc} {H H' : Heap} {w w' : World} (hq : ∀ e a w2, Post P G B Q L' H' w' e a w2 → Post P G B Q L H w e a w2) : ∀ (l : List Oper) (a : Act) (w2 : World), wpList P ops (Post P G B Q L' H' w') l a w2 → wpList P ops (Post P G B Q L H w) l a w2 := by
 intro l
 induction l with
 | nil => intro a w2 h; exact hq _ _ _ h
 | cons o l ih =>
  intro a w2 h
  unfold wpList at h ⊢
  split
  ·rename_i hw
   rw [if_pos hw] at h
   rcases h with h | ⟨h1, a0, w0, h2⟩
   ·exact .inl (oper_wp_mono ih hq h)
   ·exact .inr ⟨h1, a0, w0, hq _ _ _ h2⟩
  ·rename_i hw
   rw [if_neg hw] at h
   exact ih _ _ h
theorem aopsX_cons {ops : Array Oper} {o : Oper} {rest : List Oper} {r : PV} {H' : Heap} {nx' : Nat} (hw : s.wants ops o = some true) (hd : ∀ k, o.dst = some k → k < s.n)
  (ho : AOp P G B o s r H' nx') (h : AOpsX P G B ops rest Q (({ s with H := H', nx := nx' } : AState).put o.dst r)) : AOpsX P G B ops (o :: rest) Q s := fun L a w hi => by
 unfold wpList
 rw [if_pos (hi.wants hw)]
 refine .inl (oper_wp_mono ?_ (fun _ _ _ h => h.elim) (ho L a w hi))
 rintro a' w' ⟨v, L', rfl, hr, hok, rfl, hm, hx⟩
 have hp := h L' _ w' (interp_put hi hd hr hok hm)
 rw [put_H] at hp
 refine wpList_later ?_ _ _ _ hp
 rintro e a w2 ⟨s2, L2, q, hi2, hx2, hb2⟩
 exact ⟨s2, L2, q, hi2, hx.trans hx2, fun b hb => (hb2 b hb).trans (hm.μ b (Nat.lt_of_lt_of_le hb hi.base))⟩
theorem aopsX_skip {ops : Array Oper} {o : Oper} {rest : List Oper} (hw : s.wants ops o = some false) (hd : ∀ k, o.dst = some k → k < s.n)
  (h : AOpsX P G B ops rest Q (s.put o.dst (.t (.v undef)))) : AOpsX P G B ops (o :: rest) Q s := fun L a w hi => by
 unfold wpList
 rw [if_neg (by rw [hi.wants hw]; simp)]
 have hi' := interp_put hi (r := .t (.v undef)) (v := undef) hd (by simp only [RepV, RepT]) hi.heap (Mono.refl L w)
 have e : ({ s with H := s.H, nx := L.nx } : AState) = s := by rw [hi.nx]
 rw [e] at hi'
 have := h L _ w hi'
 rw [put_H] at this
 exact this
theorem post_pan {L L' : Loc} {a : Act} {w w' : World} {ch : Chain} (hi : Interp P G B L s a w) (h1 : HeapOK P G L' [] w') (h2 : L'.nx = s.nx) (h3 : Mono L w L' w') (h4 : Ext L s.H w L' [] w') (hx : anyP Q ch) : Post P G B Q L s.H w (.panic ch) a w' :=
 ⟨⟨[], [], L'.nx, s.n⟩, L', hx _, ⟨h1, rfl, by rw [h2, ← hi.nx]; exact hi.base, hi.size, hi.defers, fun k p hl => by cases hl⟩, h4, fun b hb => h3.μ b (Nat.lt_of_lt_of_le hb hi.base)⟩
theorem aopsX_pan {ops : Array Oper} {o : Oper} {rest : List Oper} {ch : Chain} (hw : s.wants ops o = some true) (ho : APan P G B o s ch) (hx : anyP Q ch) : AOpsX P G B ops (o :: rest) Q s := fun L a w hi => by
 unfold wpList
 rw [if_pos (hi.wants hw)]
 refine .inl (oper_wp_mono (fun _ _ h => h.elim) ?_ (ho L a w hi))
 rintro e a' w' ⟨rfl, rfl, L', h1, h2, h3, h4⟩
 exact post_pan hi h1 h2 h3 h4 hx
theorem acode_regionX {id : Nat} {ops : Array Oper} (h : AOpsX P G B ops ops.toList Q s) : ACode P G B (.region id ops false) Q s := fun L a w hi =>
 wp_region_list (h L a w hi)
theorem opK_pan {d : Bool} {o : Op} {k : MK} {xs : List Opd} (hc : opK P G d o = (k, xs)) {H : Heap} {nx : Nat} {ps : List PV} {ch : Chain} (hp : panK E H nx k ps = some ch) :
  (∃ f args ts, o = .call ⟨.value (.func f), args, ts⟩ ∧ k = .hcall f ∧ xs = args.toList.map (compOpd G)) ∨ (∃ x, o = .panic x ∧ k = .hx .pan ∧ xs = [compOpd G x]) := by
 unfold opK at hc
 split at hc
 ·rename_i q hq
  subst hc
  unfold extK at hq
  split at hq
  all_goals (first
   | (injection hq with hq; injection hq with e1 e2; subst e1; subst e2; exact .inr ⟨_, rfl, rfl, rfl⟩)
   | (obtain ⟨ks, _, e⟩ := Option.map_eq_some_iff.1 hq; injection e with e1 e2; subst e1; cases hp; done)
   | (split at hq <;> (first | (cases hq; done) | (injection hq with hq; injection hq with e1 e2; subst e1; cases hp; done) | (split at hq <;> (first | (cases hq; done) | (injection hq with hq; injection hq with e1 e2; subst e1; cases hp; done)))); done)
   | (injection hq with hq; injection hq with e1 e2; subst e1; cases hp; done)
   | (cases hq; done))
 ·split at hc
  ·split at hc
   ·injection hc with e1 e2; subst e1; cases hp
   ·injection hc with e1 e2; subst e1; cases hp
  ·split at hc
   ·rename_i q hq
    subst hc
    unfold compOp at hq
    split at hq
    all_goals (first
     | (
       split at hq
       ·injection hq with hq; injection hq with e1 e2; subst e1; subst e2; exact .inl ⟨_, _, _, rfl, rfl, rfl⟩
       ·injection hq with hq; injection hq with e1 e2; subst e1; cases hp)
     | (injection hq with hq; injection hq with e1 e2; subst e1; cases hp; done)
     | (obtain ⟨ks, _, e⟩ := Option.map_eq_some_iff.1 hq; injection e with e1 e2; subst e1; cases hp; done)
     | (cases hq; done)
     | skip)
    all_goals repeat' (first
     | (cases hq; done)
     | (injection hq with hq; injection hq with e1 e2; subst e1; cases hp; done)
     | (obtain ⟨ks, _, e⟩ := Option.map_eq_some_iff.1 hq; injection e with e1 e2; subst e1; cases hp; done)
     | split at hq)
   ·injection hc with e1 e2; subst e1; cases hp
theorem opK_apan (hE : POK P G E) {d : Bool} {o : Oper} {k : MK} {xs : List Opd} {ch : Chain} (hc : opK P G d o.op = (k, xs)) (hp : panK E s.H s.nx k (xs.map (·.ev s.env)) = some ch) : APan P G B o s ch := by
 rcases opK_pan hc hp with ⟨f, args, ts, ho, rfl, rfl⟩ | ⟨x, ho, rfl, rfl⟩
 ·refine apan_call ho (hE _ _ _ _ _ ?_)
  have : (args.toList.map (compOpd G)).map (·.ev s.env) = args.toList.map (s.ev G) := by
   rw [List.map_map]
   exact List.map_congr_left fun x _ => compOpd_ev G s x
  rw [this] at hp
  exact hp
 ·refine apan_own ho ?_
  simp only [List.map_cons, List.map_nil, compOpd_ev] at hp
  exact hp
theorem runsLE_sound (hΦ : Φ.Sound P G) (hE : POK P G E) {ops : Array Oper} : ∀ (os : List Oper) {l : List Mini} {s : AState}, Alike P G N false ops os l → s.n = N → runsLE Φ E l s (Q .normal) (anyP Q) → AOpsX P G B ops os Q s
 | [], l, s, ha, hn, h => by
  simp only [Alike] at ha
  subst ha
  exact fun L a w hi => post_here hi h
 | o :: rest, l, s, ha, hn, h => by
  simp only [Alike] at ha
  obtain ⟨m, l', rfl, hm, hr⟩ := ha
  obtain ⟨hc, hdst, hd, hw⟩ := compMini_spec hm
  have hd' : ∀ k, o.dst = some k → k < s.n := fun k hk => by rw [hn]; exact hd k hk
  simp only [runsLE] at h
  rw [← hw s, hdst] at h
  cases hww : s.wants ops o with
  | none => rw [hww] at h; exact h.elim
  | some b =>
   rw [hww] at h
   cases b with
   | false =>
    simp only [onWants_false, set_put] at h
    exact aopsX_skip hww hd' (runsLE_sound hΦ hE rest hr (by rw [put_n]; exact hn) h)
   | true =>
    simp only [onWants_true] at h
    cases hp : panK E s.H s.nx m.k (m.xs.map (·.ev s.env)) with
    | some ch =>
     rw [hp] at h
     exact aopsX_pan hww (opK_apan hE hc hp) h
    | none =>
     rw [hp, onPan_none] at h
     obtain ⟨⟨r, H', nx'⟩, hv, hk⟩ := ifSome_elim h
     rw [set_put] at hk
     exact aopsX_cons hww hd' (opK_aop hΦ hc hv) (runsLE_sound hΦ hE rest hr (by rw [put_n]; exact hn) hk)
def Slots (n : Nat) (e : Exit) (s : AState) : Prop := (∀ ch, e ≠ .panic ch) → s.n = n
theorem runsLE_n : ∀ {l : List Mini} {s : AState} {K : AState → Prop} {X : Chain → Prop}, runsLE Φ E l s K X → runsLE Φ E l s (fun s' => K s' ∧ s'.n = s.n) X
 | [], s, K, X, h => ⟨h, rfl⟩
 | m :: r, s, K, X, h => by
  have key : ∀ q : PV × Heap × Nat, runsLE Φ E r (s.set m.dst q) K X → runsLE Φ E r (s.set m.dst q) (fun s' => K s' ∧ s'.n = s.n) X := by
   intro q hq
   have := runsLE_n hq
   have e : (s.set m.dst q).n = s.n := by unfold AState.set; cases m.dst <;> rfl
   rw [e] at this
   exact this
  simp only [runsLE] at h ⊢
  cases hw : m.wants s.env with
  | none => rw [hw] at h; exact h.elim
  | some b =>
   rw [hw] at h
   cases b with
   | false => exact key _ h
   | true =>
    simp only [onWants_true] at h ⊢
    cases hp : panK E s.H s.nx m.k (m.xs.map (·.ev s.env)) with
    | some ch => rw [hp] at h; exact h
    | none =>
     rw [hp, onPan_none] at h
     rw [onPan_none]
     obtain ⟨q, hv, hk⟩ := ifSome_elim h
     rw [hv]
     exact key _ hk
theorem mc_runsE (hΦ : Ctx P G Φ) (hE : POK P G E) : ∀ (M : MCode) {Q : Exit → AState → Prop} {s : AState}, runsE Φ E M s Q → s.n = N → MC P G B N M (fun e s' => Q e s' ∧ Slots N e s') s
 | .skip, Q, s, h, hn => fun c hc _ => by
  rcases comp_cases hc with rfl | ⟨l, rfl⟩
  ·exact acode_skip ⟨h, fun _ => hn⟩
  ·exact acode_label ⟨h, fun _ => hn⟩
 | .ops l, Q, s, h, hn => fun c hc _ => by
  obtain ⟨id, ops, rfl, ho⟩ := comp_cases hc
  refine acode_regionX (runsLE_sound hΦ.sound hE _ (alike_of_mapM ho) hn ?_)
  have h2 := runsLE_n h
  have e1 : (fun s' : AState => Q .normal s' ∧ Slots N .normal s') = fun s' => Q .normal s' ∧ s'.n = s.n := by
   funext s'
   refine propext ⟨fun h => ⟨h.1, by rw [hn]; exact h.2 (fun _ h => by cases h)⟩, fun h => ⟨h.1, fun _ => by rw [← hn]; exact h.2⟩⟩
  have e2 : anyP (fun e s' => Q e s' ∧ Slots N e s') = anyP Q := by
   funext ch
   refine propext ⟨fun h s => (h s).1, fun h s => ⟨h s, fun hh => absurd rfl (hh ch)⟩⟩
  rw [e1, e2]
  exact h2
 | .draw l, Q, s, h, hn => by
  obtain ⟨e, s', h1, h2⟩ := runsM_run (Φ := Φ) (.draw l) (Q := Q) h
  exact mc_run hΦ _ h1 ⟨h2, fun _ => (runM_n _ h1).trans hn⟩
 | .drawG k l, Q, s, h, hn => by
  obtain ⟨e, s', h1, h2⟩ := runsM_run (Φ := Φ) (.drawG k l) (Q := Q) h
  exact mc_run hΦ _ h1 ⟨h2, fun _ => (runM_n _ h1).trans hn⟩
 | .seq a b, Q, s, h, hn => by
  refine mc_seq ((mc_runsE hΦ hE a h hn).mono fun e s1 q => ?_)
  cases e
  case normal =>
   have hs : s1.n = N := q.2 fun _ h => by cases h
   exact ⟨hs, mc_runsE hΦ hE b q.1 hs⟩
  all_goals exact q
 | .cond c a b, Q, s, h, hn => by
  simp only [runsE] at h
  unfold onBool at h
  split at h
  ·rename_i hc
   exact mc_cond (t := true) hc (mc_runsE hΦ hE a h hn)
  ·rename_i hc
   exact mc_cond (t := false) hc (mc_runsE hΦ hE b h hn)
  ·exact h.elim
 | .block id b, Q, s, h, hn => by
  refine mc_block ((mc_runsE hΦ hE b h hn).mono fun e s1 q => ?_)
  cases e
  case exit i =>
   have hs : s1.n = N := q.2 fun _ h => by cases h
   have q1 := q.1
   simp only [inBlock_exit] at q1 ⊢
   split at q1
   ·rename_i hi; rw [if_pos hi]; exact ⟨q1, fun _ => hs⟩
   ·rename_i hi; rw [if_neg hi]; exact ⟨q1, fun _ => hs⟩
  all_goals exact q
 | .loop _, Q, s, h, _ => h.elim
 | .exit id, Q, s, h, hn => fun c hc _ => by
  have := comp_cases hc
  simp only at this
  subst this
  exact acode_exit ⟨h, fun _ => hn⟩
 | .ret, Q, s, h, hn => fun c hc _ => by
  have := comp_cases hc
  simp only at this
  subst this
  exact acode_ret ⟨h, fun _ => hn⟩
 | .scope b, Q, s, h, hn => by
  refine mc_scope ((mc_runsE hΦ hE b h hn).mono fun e s1 q => ?_)
  cases e
  case goto l => exact q.1
  all_goals exact q
def EndsO (P : Program) (G : Globs) (B : Nat) (vs : List RV) (o : Out) (e : Exit) (s : AState) : Prop :=
 match o with
 | .ret r H nx => EndsP P G B vs (fun r0 H0 nx0 => r0 = r ∧ H0 = H ∧ nx0 = nx) e s
 | .pan ch => e = .panic ch
theorem callME {f : FuncId} {fn : Func} {c : Code} {M : MCode} {ps : List PV} {H : Heap} {nx : Nat} {ch : Chain} (hf : P.funcs[f]? = some fn) (hb : fn.body = some c) (hname : (fn.name == "runtime.NumGoroutine") = false)
  (hc : comp P G N c = some M) (hN : ps.length + (fn.ntmps - ps.length) = N)
  (h : MC P G nx N M (fun e _ => e = .panic ch) ⟨startsP 0 ps, H, nx, N⟩) : CallE P G f ps H nx ch [] := by
 refine ⟨⟨fn, c, hf, hb, hname⟩, fun L w us hok hnx hargs => calls_of_wp hf hb ?_⟩
 have hlen : us.size = ps.length := by simpa using hargs.length
 have hi : Interp P G nx L ⟨startsP 0 ps, H, nx, N⟩ { tmps := us ++ Array.replicate (fn.ntmps - us.size) undef, defers := [] } w := by
  refine ⟨hok, hnx, by rw [hnx]; exact Nat.le_refl _, by simp [hlen, hN], rfl, fun k p hl => ?_⟩
  simp only [startsP_eq] at hl
  obtain ⟨_, hk⟩ := look_zipIdx _ k 0 p hl
  simp only [Nat.sub_zero] at hk
  obtain ⟨x, hx, hr⟩ := hargs.at_ k hk
  have hx' : us[k]? = some x := by simpa using hx
  have hk' : k < us.size := (Array.getElem?_eq_some_iff.1 hx').1
  rw [Array.getD_eq_getD_getElem?, Array.getElem?_append_left hk', hx']
  exact hr
 refine wp_mono (h c hc rfl L _ w hi) fun e a' w' ⟨s1, L1, q, hi1, hx, hμ⟩ => ?_
 subst q
 have hb1 : L.nx ≤ L1.nx := by rw [hnx]; exact hi1.base
 have hkp : Keeps L.I L1.I w w' := Ext.keeps hok hx
 have hm : Mono L w { L1 with nx := L.nx } w' := ⟨hkp, Nat.le_refl _, fun b hb => hμ b (by omega), hx.size, hx.shape⟩
 refine ⟨hi1.defers, { L1 with nx := L.nx }, rfl, ⟨hi1.heap.lt, fun _ _ hb => (by cases hb), fun _ _ hb => (by cases hb), fun _ _ _ _ hb => (by cases hb), fun _ _ hb => (by cases hb), hi1.heap.glob⟩, hnx, hm, ?_⟩
 exact ⟨hx.size, hx.same, hx.more, hx.new, fun g ⟨b, r, hb, _⟩ => (by cases hb), hx.shape, hx.outer⟩
theorem FnOK.callO {f : FuncId} {k : Nat} {M : MCode} {vs : List RV} (h : FnOK P G f k N M vs) {ps : List PV} {H : Heap} {nx : Nat} {o : Out} (hk : ps.length = k)
  (hm : MC P G nx N M (EndsO P G nx vs o) ⟨startsP 0 ps, H, nx, N⟩) : CallO P G f ps H nx o := by
 cases o with
 | ret r H' nx' => exact h.callP hk hm
 | pan ch =>
  obtain ⟨fn, hf, hn, hb, hr, hN⟩ := h
  cases hbody : fn.body with
  | none => rw [hbody] at hb; cases hb
  | some c =>
   rw [hbody] at hb
   exact callME hf hbody hn hb (by rw [hk]; exact hN) hm
theorem CallE.lift1 {f : FuncId} {ty : TypeId} {cs args : List T} {ch : Chain} (h : CallE P G f (.ptr 0 0 :: args.map .t) [(0, .cells ty (cs.map .t))] 1 ch [])
  {b NX : Nat} {Hb : Heap} (hb : look Hb b = some (.cells ty (cs.map .t))) (hlt : b < NX) : CallE P G f (.ptr b 0 :: args.map .t) Hb NX ch (rem Hb b) := by
 refine ⟨h.1, fun L w us hok hnx hargs => ?_⟩
 have one : ∀ k r, look [(0, Row.cells ty (cs.map .t))] k = some r → k = 0 ∧ r = .cells ty (cs.map .t) := by
  intro k r hk
  simp only [look] at hk
  split at hk
  ·rename_i e; injection hk with hk; exact ⟨e.symm, hk.symm⟩
  ·cases hk
 have hrow := hok.rep b _ hb
 have hok0 : HeapOK P G ⟨L.I, fun _ => L.μ b, 1⟩ [(0, .cells ty (cs.map .t))] w := by
  refine ⟨hok.lt, fun k r hk => ?_, fun k r hk => ?_, fun k k' r r' hk hk' _ => by rw [(one k r hk).1, (one k' r' hk').1], fun k r hk => by rw [(one k r hk).1]; exact Nat.lt_succ_self _, hok.glob⟩
  ·obtain ⟨rfl, rfl⟩ := one k r hk
   obtain ⟨arr, ha, hl, hc⟩ := hrow
   refine ⟨arr, ha, hl, fun j c hj => ?_⟩
   obtain ⟨v, hv, h1, hr⟩ := hc j c hj
   refine ⟨v, hv, h1, ?_⟩
   rw [List.getElem?_map] at hj
   obtain ⟨c0, _, rfl⟩ := map_opt hj
   simp only [RepV] at hr ⊢
   exact hr
  ·exact hok.apart b _ hb
 have hargs0 : RepVL P ⟨L.I, fun _ => L.μ b, 1⟩ w (.ptr 0 0 :: args.map .t) us.toList := by
  simp only [RepVL, RepV] at hargs ⊢
  obtain ⟨u, r, e, ⟨_, h2⟩, h3⟩ := hargs
  refine ⟨u, r, e, ⟨by omega, h2⟩, ?_⟩
  clear e
  have : ∀ (args : List T) (r : List Value), RepVL P L w (args.map .t) r → RepVL P ⟨L.I, fun _ => L.μ b, 1⟩ w (args.map .t) r := by
   intro args
   induction args with
   | nil => intro r h; simpa only [List.map_nil, RepVL] using h
   | cons a args ih =>
    intro r h
    simp only [List.map_cons, RepVL, RepV] at h ⊢
    obtain ⟨x, xs, e, hx, hxs⟩ := h
    exact ⟨x, xs, e, hx, ih xs hxs⟩
  exact this _ _ h3
 refine (h.2 _ w us hok0 rfl hargs0).mono ?_
 rintro e w' ⟨L1, rfl, hok1, hnx1, hm, hx⟩
 have mine0 : ∀ g, Mine ⟨L.I, fun _ => L.μ b, 1⟩ [(0, Row.cells ty (cs.map .t))] g → g = L.μ b := fun g ⟨_, _, _, e⟩ => e.symm
 have hm' : Mono L w ⟨L1.I, L.μ, NX⟩ w' := ⟨hm.keeps, by rw [hnx]; exact Nat.le_refl _, fun _ _ => rfl, hm.size, hm.shape⟩
 have hsame : ∀ k r, look (rem Hb b) k = some r → look Hb k = some r ∧ L.μ k ≠ L.μ b := by
  intro k r hk
  rw [look_rem] at hk
  split at hk
  ·cases hk
  ·rename_i hne
   exact ⟨hk, fun e => hne (hok.inj k b r _ hk hb e)⟩
 refine ⟨⟨L1.I, L.μ, NX⟩, rfl, ⟨hok1.lt, fun k r hk => ?_, fun k r hk hI => ?_, fun k k' r r' hk hk' e => hok.inj k k' r r' (hsame k r hk).1 (hsame k' r' hk').1 e, fun k r hk => by rw [← hnx]; exact hok.nx k r (hsame k r hk).1, hok1.glob⟩, rfl, hm', ?_⟩
 ·obtain ⟨hk1, hk2⟩ := hsame k r hk
  have hr := hok.rep k r hk1
  exact hr.keep hm' (hx.same _ hr.lt fun hmn => hk2 (mine0 _ hmn))
 ·obtain ⟨hk1, hk2⟩ := hsame k r hk
  have hr := (hok.rep k r hk1).lt
  rcases hx.new _ hI with h1 | h1 | h1
  ·exact hok.apart k r hk1 h1
  ·exact absurd hr (by have h' : w.heap.size ≤ L.μ k := h1; omega)
  ·exact hk2 (mine0 _ h1)
 ·refine ⟨hx.size, fun g hg hmn => hx.same g hg fun h0 => hmn ⟨b, _, hb, (mine0 g h0).symm⟩, hx.more, fun g hg => ?_, fun g ⟨k, r, hk, e⟩ => .inr ⟨k, r, (hsame k r hk).1, e⟩, hx.shape, hx.outer⟩
  rcases hx.new g hg with h1 | h1 | h1
  ·exact .inl h1
  ·exact .inr (.inl h1)
  ·exact .inr (.inr ⟨b, _, hb, (mine0 g h1).symm⟩)
end
section
variable {P : Program} {G : Globs} {B N : Nat} {Φ : Oracle} {E : Pans} {ops : Array Oper} {l : List Mini} {π : List Nat} {pa : Nat} {R : List (Nat × Nat)}
structure TraceP (Φ : Oracle) (ms : List Mini) (R : List (Nat × Nat)) (s : AState) (pe : Nat) (st : Nat → AState) (vals : Nat → PV) : Prop where
 start : st 0 = s
 norm : ∀ (p : Nat) m, p < pe → ms[p]? = some m → Did Φ (st p) m (vals p) (st (p + 1))
 again : ∀ (p p' : Nat) m, p < pe → p' < pe → (p, p') ∈ R → ms[p]? = some m → evalQ Φ (st (p' + 1)).H (st (p' + 1)).nx m.k (m.xs.map (·.ev (st p).env)) = some (vals p)
structure InvP (P : Program) (G : Globs) (B : Nat) (q : List (Nat × Mini)) (pe i0 : Nat) (st : Nat → AState) (vals : Nat → PV) (s : AState) (L0 : Loc) (w0 : World) (S : Array Bool) (p0 : Nat) (L : Loc) (a : Act) (w : World) : Prop where
 le : p0 ≤ pe
 notyet : S.getD i0 false = false
 bound : ∀ (p : Nat) x, q[p]? = some x → S.getD x.1 false = true → p < pe
 done : ∀ (p : Nat) x, q[p]? = some x → quietK x.2.k = false → (S.getD x.1 false = true ↔ p < p0)
 heap : HeapOK P G L (st p0).H w
 nx : L.nx = (st p0).nx
 base : B ≤ L.nx
 size : a.tmps.size = s.n
 defers : a.defers = []
 vals : ∀ (p : Nat) x, q[p]? = some x → S.getD x.1 false = true → ∀ k, x.2.dst = some k → RepV P L w (vals p) (a.tmps.getD k undef)
 old : ∀ k u, (∀ (p : Nat) x, q[p]? = some x → S.getD x.1 false = true → x.2.dst ≠ some k) → look s.env k = some u → RepV P L w u (a.tmps.getD k undef)
 ext : Ext L0 s.H w0 L (st p0).H w
 μ : ∀ b, b < B → L.μ b = L0.μ b
set_option maxHeartbeats 1000000 in
theorem acode_draw_pan (hmix : P.follows .mixedOrders = true) (hΦ : Φ.Sound P G) {Q : Exit → AState → Prop} {s : AState} {st : Nat → AState} {vals : Nat → PV} {id pe : Nat} {x0 : Nat × Mini} {ch : Chain}
  (ha0 : ops.toList.mapM (compMini P G N true ops) = some l) (hd0 : drawM ops l π pa 0 R = true) (hn : s.n = N)
  (hx0 : (ordered l π)[pe]? = some x0) (hlate : ∀ (p : Nat) y, pe < p → (ordered l π)[p]? = some y → ((ancs ops.toList []).getD y.1 0).testBit x0.1 = true) (hk0 : quietK x0.2.k = false)
  (hrun : TraceP Φ ((ordered l π).map Prod.snd) R s pe st vals) (hw0 : x0.2.wants (st pe).env = some true)
  (hpan : ∀ (o : Oper) (s' : AState), opK P G true o.op = (x0.2.k, x0.2.xs) → s'.H = (st pe).H → s'.nx = (st pe).nx → x0.2.xs.map (·.ev s'.env) = x0.2.xs.map (·.ev (st pe).env) → APan P G B o s' ch)
  (hq : anyP Q ch) : ACode P G B (.region id ops true) Q s := by
 intro L0 a0 w0 hi0
 have ha := alike_of_mapM ha0
 have hlen : ops.size = l.length := by have := (ha.at_ 0).2; simpa using this
 obtain ⟨hd, hql, hnodup⟩ := drawM_spec hlen hd0
 have h0 := hrun.start
 generalize hq' : ordered l π = q at *
 have hmem : ∀ (p : Nat) x, q[p]? = some x → l[x.1]? = some x.2 := by intro p x hx; rw [← hq'] at hx; exact ordered_spec l π p x hx
 have hms : ∀ (p : Nat) x, q[p]? = some x → (q.map Prod.snd)[p]? = some x.2 := by intro p x hx; simp [hx]
 have hpe : pe < q.length := (List.getElem?_eq_some_iff.1 hx0).1
 have step : ∀ (p : Nat) x, p < pe → q[p]? = some x → Did Φ (st p) x.2 (vals p) (st (p + 1)) := fun p x hp hx => hrun.norm p x.2 hp (hms p x hx)
 have uniq : ∀ (p p' : Nat) x y, q[p]? = some x → q[p']? = some y → x.1 = y.1 → p = p' := by
  intro p p' x y hx hy e
  have h1 : (q.map Prod.fst)[p]? = some x.1 := by simp [hx]
  have h2 : (q.map Prod.fst)[p']? = some x.1 := by simp [hy, e]
  have hp := (List.getElem?_eq_some_iff.1 h1).1
  exact (List.getElem?_inj hp hnodup).1 (h1.trans h2.symm)
 have fresh : ∀ p, p ≤ pe → Fresh (st p) := by
  intro p
  induction p with
  | zero => intro _; rw [h0]; exact fun b r hb => by have := hi0.heap.nx b r hb; rw [hi0.nx] at this; exact this
  | succ p ih =>
   intro hp
   have hx : q[p]? = some q[p] := List.getElem?_eq_getElem (by omega)
   exact (did_fresh hΦ (step p _ (by omega) hx) (ih (by omega))).1
 -- no change of rows between
 have flat : ∀ (a b : Nat), a ≤ b → b ≤ pe → (∀ (p : Nat) x, a ≤ p → p < b → q[p]? = some x → quietK x.2.k = true) → (st b).H = (st a).H ∧ (st b).nx = (st a).nx := by
  intro a b hab
  induction b with
  | zero =>
   intro _ _
   have : a = 0 := by omega
   subst this; exact ⟨rfl, rfl⟩
  | succ b ih =>
   intro hb hno
   by_cases e : a = b + 1
   ·subst e; exact ⟨rfl, rfl⟩
   ·have hx : q[b]? = some q[b] := List.getElem?_eq_getElem (by omega)
    have h1 := did_quiet (step b _ (by omega) hx) (hno b _ (by omega) (by omega) hx)
    have h2 := ih (by omega) (by omega) (fun p x h1 h2 h3 => hno p x h1 (by omega) h3)
    exact ⟨h1.1.trans h2.1, h1.2.trans h2.2⟩
 have nconst : ∀ p, p ≤ pe → (st p).n = s.n := by
  intro p
  induction p with
  | zero => intro _; rw [h0]
  | succ p ih =>
   intro hp
   have hx : q[p]? = some q[p] := List.getElem?_eq_getElem (by omega)
   rw [(did_env (step p _ (by omega) hx)).2, ih (by omega)]
 -- what a slot holds
 have trace : ∀ (p : Nat), p ≤ pe → ∀ k u, look (st p).env k = some u → (∃ (j : Nat) (y : Nat × Mini), j < p ∧ q[j]? = some y ∧ y.2.dst = some k ∧ u = vals j) ∨ ((∀ (j : Nat) y, j < p → q[j]? = some y → y.2.dst ≠ some k) ∧ look s.env k = some u) := by
  intro p
  induction p with
  | zero => intro _ k u hl; rw [h0] at hl; exact .inr ⟨fun j y h => by omega, hl⟩
  | succ p ih =>
   intro hp k u hl
   have hx : q[p]? = some q[p] := List.getElem?_eq_getElem (by omega)
   rw [(did_env (step p _ (by omega) hx)).1] at hl
   rcases look_put hl with ⟨e, rfl⟩ | ⟨e, hl'⟩
   ·exact .inl ⟨p, _, by omega, hx, e, rfl⟩
   ·rcases ih (by omega) k u hl' with ⟨j, y, hj, hy, hd, rfl⟩ | ⟨hno, hs⟩
    ·exact .inl ⟨j, y, by omega, hy, hd, rfl⟩
    ·refine .inr ⟨fun j y hj hy => ?_, hs⟩
     by_cases ej : j = p
     ·subst ej; rw [hx] at hy; injection hy with hy; subst hy; exact e
     ·exact hno j y (by omega) hy
 refine wp_region_any hmix ?_
 have main : ∀ (fuel : Nat) (S : Array Bool) (p0 : Nat) (L : Loc) (a : Act) (w : World), S.size = ops.size → Closed ops S → ops.size ≤ cnt S + fuel →
   InvP P G B q pe x0.1 st vals s L0 w0 S p0 L a w → wpAny P .any ops (Post P G B Q L0 s.H w0) fuel S a w := by
  have i0lt : x0.1 < ops.size := by have := (List.getElem?_eq_some_iff.1 (hmem pe x0 hx0)).1; omega
  intro fuel
  induction fuel with
  | zero =>
   intro S p0 L a w hs hS hc inv
   have hall' := cnt_full (S := S) (by omega)
   have := hall' x0.1 (by omega)
   rw [inv.notyet] at this
   cases this
  | succ fuel ih =>
   intro S p0 L a w hs hS hc inv
   refine ⟨fun hr => ?_, fun i hi => ?_⟩
   ·exfalso
    have all : ∀ i, i < ops.size → S.getD i false = true := by
     intro i
     induction i using Nat.strongRecOn with
     | _ i ihi =>
      intro hi
      cases hS' : S.getD i false with
      | true => rfl
      | false =>
       exfalso
       have : i ∈ Region.ready .any ops S := ready_mk (o := ops[i]) (Array.getElem?_eq_getElem hi) (by rw [getD_both (by omega)]; exact hS')
        (fun e he hb => by
         have := hd.back i _ (Array.getElem?_eq_getElem hi) e he hb
         exact ihi _ this (by omega))
       rw [hr] at this
       cases this
    have := all x0.1 i0lt
    rw [inv.notyet] at this
    cases this
   ·obtain ⟨hi1, hun, o, ho, hp⟩ := ready_spec hi
    rw [getD_both (by omega)] at hun
    obtain ⟨p, mi, hx⟩ := hd.all i hi1
    have hpl : p < q.length := (List.getElem?_eq_some_iff.1 hx).1
    obtain ⟨mi', hmi', hcomp⟩ := (ha.at_ i).1 o (by simpa using ho)
    have emi : mi' = mi := by have := hmem p _ hx; simp only at this; rw [this] at hmi'; injection hmi' with h; exact h.symm
    subst emi
    obtain ⟨hcop, hdst, hdlt, hwants⟩ := compMini_spec hcomp
    -- what came before is done; what waits for this one is not
    have bef : ∀ j, ((ancs ops.toList []).getD i 0).testBit j = true → S.getD j false = true := fun j hb => before_listed hS ho hb hp
    have aft : ∀ j, j < ops.size → ((ancs ops.toList []).getD j 0).testBit i = true → S.getD j false = false := by
     intro j hj hb
     cases hSj : S.getD j false with
     | false => rfl
     | true =>
      have hjo : ops[j]? = some ops[j] := Array.getElem?_eq_getElem hj
      have := before_listed hS hjo hb (hS j _ hjo hSj)
      rw [this] at hun; cases hun
    have idx : ∀ (p' : Nat) y, q[p']? = some y → y.1 < ops.size := fun p' y hy => by have := (List.getElem?_eq_some_iff.1 (hmem p' y hy)).1; omega
    have idx : ∀ (p' : Nat) y, q[p']? = some y → y.1 < ops.size := fun p' y hy => by have := (List.getElem?_eq_some_iff.1 (hmem p' y hy)).1; omega
    have hple : p ≤ pe := by
     rcases Nat.lt_or_ge pe p with h | h
     ·have := bef x0.1 (hlate p _ h hx)
      rw [inv.notyet] at this
      cases this
     ·exact h
    have hbefore' : ∀ (p' : Nat) y, p' < p → q[p']? = some y → quietK y.2.k = false → p' < p0 := by
     intro p' y hlt hy hyk
     refine (inv.done p' y hy hyk).1 (bef _ ?_)
     have hok := hd.pair p' p _ _ hlt hy hx
     unfold okPairG at hok
     simp only [Bool.and_eq_true] at hok
     have h1 := hok.1.1.1
     rw [hyk] at h1
     simp only [Bool.false_and, Bool.false_or, Bool.or_eq_true, Bool.and_eq_true, decide_eq_true_eq] at h1
     rcases h1 with h1 | h1
     ·exact h1
     ·omega
    -- the slots that it looks at
    have eye : ∀ k u, k ∈ mi'.eyes → look (st p).env k = some u → RepV P L w u (a.tmps.getD k undef) := by
     intro k' u hke hl
     rcases trace p hple k' u hl with ⟨j, y, hj, hy, hdj, rfl⟩ | ⟨hno, hs'⟩
     ·have hok := hd.pair j p _ _ hj hy hx
      unfold okPairG at hok
      simp only [Bool.and_eq_true] at hok
      have h2 := hok.1.1.2
      rw [hdj] at h2
      simp only [Bool.or_eq_true, Bool.not_eq_true', Bool.and_eq_true] at h2
      rcases h2 with h2 | ⟨h2, h3⟩
      ·exact absurd hke (by simpa using h2)
      ·exact inv.vals j _ hy (bef _ h2) k' hdj
     ·refine inv.old k' u (fun p' y hy hSy hdy => ?_) hs'
      rcases Nat.lt_trichotomy p' p with hlt | heq | hgt
      ·exact hno p' y hlt hy hdy
      ·subst heq
       rw [hx] at hy; injection hy with hy; subst hy
       simp only at hSy
       rw [hSy] at hun; cases hun
      ·have hok := hd.pair p p' _ _ hgt hx hy
       unfold okPairG at hok
       simp only [Bool.and_eq_true] at hok
       have h3 := hok.1.2
       rw [hdy] at h3
       simp only [Bool.or_eq_true, Bool.not_eq_true'] at h3
       rcases h3 with h3 | h3
       ·exact absurd hke (by simpa using h3)
       ·have := aft y.1 (idx p' y hy) h3
        rw [this] at hSy; cases hSy
    -- its value at the rows as they stand
    have hi' : Interp P G B L ({ ((st p).only mi'.eyes) with H := (st p0).H, nx := (st p0).nx } : AState) a w := by
     refine ⟨inv.heap, inv.nx, inv.base, by show a.tmps.size = (st p).n; rw [nconst p hple]; exact inv.size, inv.defers, fun k u hl => ?_⟩
     have hl' : look ((st p).only mi'.eyes).env k = some u := hl
     rw [look_only] at hl'
     split at hl'
     ·rename_i hke; exact eye k u hke hl'
     ·cases hl'
    have hww : ({ ((st p).only mi'.eyes) with H := (st p0).H, nx := (st p0).nx } : AState).wants ops o = mi'.wants (st p).env := by
     rw [hwants]; exact eyes_wants (st p) mi' mi'.eyes (fun _ h => h)
    have hev : mi'.xs.map (·.ev ({ ((st p).only mi'.eyes) with H := (st p0).H, nx := (st p0).nx } : AState).env) = mi'.xs.map (·.ev (st p).env) := eyes_ev (st p) mi' mi'.eyes (fun _ h => h)
    unfold wpOp
    rw [ho]
    simp only
    by_cases hpp : p = pe
    ·
     subst hpp
     rw [hx] at hx0
     injection hx0 with hx0
     subst hx0
     have hf := flat p0 p (by
      rcases Nat.lt_or_ge p p0 with h | h
      ·have := inv.le; omega
      ·exact h) (Nat.le_refl _) (fun p' y h1 h2 h3 => by
      cases hyk : quietK y.2.k with
      | true => rfl
      | false => have := hbefore' p' y h2 h3 hyk; omega)
     rw [if_pos (hi'.wants (hww.trans hw0))]
     have hap := hpan o ({ ((st p).only mi'.eyes) with H := (st p0).H, nx := (st p0).nx } : AState) hcop hf.1.symm hf.2.symm hev L a w hi'
     refine .inl (oper_wp_mono (fun _ _ h => h.elim) ?_ hap)
     rintro e a' w' ⟨rfl, rfl, L', h1, h2, h3, h4⟩
     refine ⟨⟨[], [], L'.nx, s.n⟩, L', hq _, ⟨h1, rfl, Nat.le_trans inv.base (by rw [h2]; exact Nat.le_of_eq inv.nx), inv.size, inv.defers, fun k p hl => by cases hl⟩, inv.ext.trans h4, fun b hb => (h3.μ b (Nat.lt_of_lt_of_le hb inv.base)).trans (inv.μ b hb)⟩
    have hplt : p < pe := by omega
    have hS' : Closed ops (S.setIfInBounds i true) := by
     intro j oj hoj hj e he hb
     rw [getD_set S i _ (by omega)] at hj ⊢
     split
     ·rfl
     ·split at hj
      ·rename_i e1
       subst e1
       rw [ho] at hoj
       injection hoj with hoj
       subst hoj
       exact hp e he hb
      ·exact hS j oj hoj hj e he hb
    have hc' : ops.size ≤ cnt (S.setIfInBounds i true) + fuel := by rw [cnt_set (by omega) hun]; omega
    have dsts : ∀ (p' : Nat) y k', q[p']? = some y → i ≠ y.1 → y.2.dst = some k' → o.dst ≠ some k' := by
     intro p' y k' hy e hk
     rw [← hdst]
     intro hcon
     have epn : p ≠ p' := fun ep => by subst ep; rw [hx] at hy; injection hy with hy; subst hy; exact e rfl
     rcases Nat.lt_or_gt_of_ne epn with hlt | hgt
     ·have hok := hd.pair p p' _ _ hlt hx hy
      unfold okPairG at hok
      simp only [Bool.and_eq_true] at hok
      have h4 := hok.2
      rw [hcon] at h4
      simp only [bne_iff_ne] at h4
      exact h4 hk
     ·have hok := hd.pair p' p _ _ hgt hy hx
      unfold okPairG at hok
      simp only [Bool.and_eq_true] at hok
      have h4 := hok.2
      rw [hk] at h4
      simp only [bne_iff_ne] at h4
      exact h4 hcon
    have ine : i ≠ x0.1 := fun e => hpp (uniq p pe _ _ hx hx0 e)
    have next : ∀ (p1 : Nat) (L' : Loc) (w' : World) (u : Value), p1 ≤ pe →
      (∀ (p' : Nat) y, q[p']? = some y → quietK y.2.k = false → ((S.setIfInBounds i true).getD y.1 false = true ↔ p' < p1)) →
      RepV P L' w' (vals p) u → HeapOK P G L' (st p1).H w' → L'.nx = (st p1).nx → Mono L w L' w' → Ext L (st p0).H w L' (st p1).H w' →
      wpAny P .any ops (Post P G B Q L0 s.H w0) fuel (S.setIfInBounds i true) (a.put o.dst u) w' := by
     intro p1 L' w' u hp1 hdone hru hok' hnx' hm' hx'
     refine ih _ p1 L' _ w' (by simpa using hs) hS' hc' ⟨hp1, ?_, fun p' y hy hSy => ?_, hdone, hok', hnx', Nat.le_trans inv.base hm'.nx, ?_, ?_, ?_, ?_, inv.ext.trans hx', fun b hb => (hm'.μ b (Nat.lt_of_lt_of_le hb inv.base)).trans (inv.μ b hb)⟩
     ·rw [getD_set S i _ (by omega), if_neg ine]; exact inv.notyet
     ·rw [getD_set S i _ (by omega)] at hSy
      split at hSy
      ·rename_i e
       have ep := uniq p p' _ _ hx hy e
       omega
      ·exact inv.bound p' y hy hSy
     ·rw [← inv.size]; cases o.dst <;> simp [Act.put]
     ·cases o.dst <;> simp [Act.put, inv.defers]
     ·intro p' y hy hSy k' hk
      rw [tmps_put]
      by_cases e : i = y.1
      ·have ep := uniq p p' _ _ hx hy e
       subst ep
       rw [hx] at hy; injection hy with hy; subst hy
       rw [if_pos ⟨by rw [← hdst]; exact hk, by rw [inv.size, hn]; exact hdlt k' (by rw [← hdst]; exact hk)⟩]
       exact hru
      ·rw [getD_set S i _ (by omega), if_neg e] at hSy
       rw [if_neg (fun h => dsts p' y k' hy e hk h.1)]
       exact RepV.keep hm' _ (inv.vals p' y hy hSy k' hk)
     ·intro k' u' hno h0'
      rw [tmps_put]
      have hk := hno p _ hx (by rw [getD_set S i _ (by omega), if_pos rfl])
      rw [if_neg (fun h => hk (by rw [hdst]; exact h.1))]
      refine RepV.keep hm' u' (inv.old k' u' (fun p' y hy hSy => hno p' y hy ?_) h0')
      rw [getD_set S i _ (by omega)]
      split
      ·rfl
      ·exact hSy
    have keepdone : quietK mi'.k = true → ∀ (p' : Nat) y, q[p']? = some y → quietK y.2.k = false → ((S.setIfInBounds i true).getD y.1 false = true ↔ p' < p0) := by
     intro hquiet p' y hy hyk
     rw [getD_set S i _ (by omega)]
     by_cases e : i = y.1
     ·have ep := uniq p p' _ _ hx hy e
      subst ep
      rw [hx] at hy; injection hy with hy; subst hy
      rw [hquiet] at hyk; cases hyk
     ·rw [if_neg e]; exact inv.done p' y hy hyk
    have hdid := step p _ hplt hx
    simp only at hdid
    rcases hdid with ⟨hquiet, hval, hst⟩ | ⟨hheavy, hwf, hv, hst⟩ | ⟨hheavy, hwt, H', nx', hek, hst⟩
    ·unfold valQ at hval
     split at hval
     ·rename_i hwt
      rw [if_pos (hi'.wants (hww.trans hwt))]
      have hval0 : evalQ Φ (st p0).H (st p0).nx mi'.k (mi'.xs.map (·.ev (st p).env)) = some (vals p) := by
       by_cases hpp : p0 ≤ p
       ·have hf := flat p0 p hpp hple (fun p' y h1 h2 h3 => by
         cases hyk : quietK y.2.k with
         | true => rfl
         | false => have := hbefore' p' y h2 h3 hyk; omega)
        rw [← hf.1, ← hf.2]; exact hval
       ·have walk : ∀ p1, p ≤ p1 → p1 ≤ p0 → evalQ Φ (st p1).H (st p1).nx mi'.k (mi'.xs.map (·.ev (st p).env)) = some (vals p) := by
         intro p1
         induction p1 with
         | zero =>
          intro h _
          have : p = 0 := by omega
          subst this; exact hval
         | succ p1 ihp =>
          intro h1 h2
          by_cases e : p = p1 + 1
          ·subst e; exact hval
          ·have hv1 := ihp (by omega) (by omega)
           have hle := inv.le
           have hy : q[p1]? = some q[p1] := List.getElem?_eq_getElem (by omega)
           have hdy := step p1 _ (by omega) hy
           cases hyk : quietK (q[p1]).2.k with
           | true =>
            have := did_quiet hdy hyk
            rw [this.1, this.2]; exact hv1
           | false =>
            by_cases hind : indepK mi'.k = true
            ·exact evalQ_indep hind hv1
            ·have hlt : p < p1 := by
              rcases Nat.lt_or_ge p p1 with h | h
              ·exact h
              ·have : p1 = p := by omega
               subst this
               rw [hx] at hy; injection hy with hy
               rw [← hy] at hyk
               simp only at hyk
               rw [hquiet] at hyk; cases hyk
             have hSy := (inv.done p1 _ hy hyk).2 (by omega)
             have hok := hd.pair p p1 _ _ hlt hx hy
             unfold okPairG at hok
             simp only [Bool.and_eq_true] at hok
             have h1' := hok.1.1.1
             simp only [hquiet, hyk, Bool.true_and, Bool.false_or, Bool.or_eq_true, Bool.and_eq_true, decide_eq_true_eq] at h1'
             rcases h1' with (((h | h) | h) | h) | h
             ·exact absurd h hind
             ·exact evalQ_mono ((did_fresh hΦ hdy (fresh p1 (by omega))).2 (.inl h)) hv1
             ·exact hrun.again p p1 mi' hplt (by omega) (by simpa using h) (hms p _ hx)
             ·have := aft _ (idx p1 _ hy) h
              rw [this] at hSy; cases hSy
             ·omega
        exact walk p0 (by omega) (Nat.le_refl _)
      have hek' : evalK Φ ({ ((st p).only mi'.eyes) with H := (st p0).H, nx := (st p0).nx } : AState).H ({ ((st p).only mi'.eyes) with H := (st p0).H, nx := (st p0).nx } : AState).nx mi'.k (mi'.xs.map (·.ev ({ ((st p).only mi'.eyes) with H := (st p0).H, nx := (st p0).nx } : AState).env)) = some (vals p, (st p0).H, (st p0).nx) := by
       rw [hev]; exact evalQ_evalK hval0
      have haop := opK_aop (B := B) hΦ hcop hek' L a w hi'
      refine .inl (oper_wp_mono ?_ (fun _ _ _ h => h.elim) haop)
      rintro a' w' ⟨u, L', rfl, hru, hok', hnx', hm', hx'⟩
      exact next p0 L' w' u inv.le (keepdone hquiet) hru hok' hnx' hm' hx'
     ·rename_i hwf
      rw [if_neg (by rw [hi'.wants (hww.trans hwf)]; simp)]
      injection hval with hval
      exact next p0 L w undef inv.le (keepdone hquiet) (by rw [← hval]; simp only [RepV, RepT]) inv.heap inv.nx (Mono.refl _ _) (Ext.refl _ _ _)
     ·cases hval
    all_goals
     have hp0p : p0 ≤ p := by
      rcases Nat.lt_or_ge p p0 with h | h
      ·have := (inv.done p _ hx hheavy).2 h
       simp only at this
       rw [this] at hun; cases hun
      ·exact h
     have hf := flat p0 p hp0p hple (fun p' y h1 h2 h3 => by
      cases hyk : quietK y.2.k with
      | true => rfl
      | false => have := hbefore' p' y h2 h3 hyk; omega)
     have hdone' : ∀ (p' : Nat) y, q[p']? = some y → quietK y.2.k = false → ((S.setIfInBounds i true).getD y.1 false = true ↔ p' < p + 1) := by
      intro p' y hy hyk
      rw [getD_set S i _ (by omega)]
      by_cases e : i = y.1
      ·have ep := uniq p p' _ _ hx hy e
       subst ep
       simp [e]
      ·rw [if_neg e, inv.done p' y hy hyk]
       constructor
       ·intro h; omega
       ·intro h
        have : p' ≠ p := fun ep => by subst ep; rw [hx] at hy; injection hy with hy; subst hy; exact e rfl
        exact hbefore' p' y (by omega) hy hyk
    ·rw [if_neg (by rw [hi'.wants (hww.trans hwf)]; simp)]
     have e1 : (st (p + 1)).H = (st p0).H := by rw [hst, put_H, hf.1]
     have e2 : (st (p + 1)).nx = (st p0).nx := by rw [hst, put_nx, hf.2]
     exact next (p + 1) L w undef (by omega) hdone' (by rw [hv]; simp only [RepV, RepT]) (by rw [e1]; exact inv.heap) (by rw [e2]; exact inv.nx) (Mono.refl _ _) (by rw [e1]; exact Ext.refl _ _ _)
    ·rw [if_pos (hi'.wants (hww.trans hwt))]
     have hek' : evalK Φ ({ ((st p).only mi'.eyes) with H := (st p0).H, nx := (st p0).nx } : AState).H ({ ((st p).only mi'.eyes) with H := (st p0).H, nx := (st p0).nx } : AState).nx mi'.k (mi'.xs.map (·.ev ({ ((st p).only mi'.eyes) with H := (st p0).H, nx := (st p0).nx } : AState).env)) = some (vals p, H', nx') := by
      rw [hev]
      show evalK Φ (st p0).H (st p0).nx mi'.k _ = _
      rw [← hf.1, ← hf.2]; exact hek
     have haop := opK_aop (B := B) hΦ hcop hek' L a w hi'
     refine .inl (oper_wp_mono ?_ (fun _ _ _ h => h.elim) haop)
     rintro a' w' ⟨u, L', rfl, hru, hok', hnx', hm', hx'⟩
     have e1 : (st (p + 1)).H = H' := by rw [hst, put_H]
     have e2 : (st (p + 1)).nx = nx' := by rw [hst, put_nx]
     exact next (p + 1) L' w' u (by omega) hdone' hru (by rw [e1]; exact hok') (by rw [e2]; exact hnx') hm' (by rw [e1]; exact hx')
 obtain ⟨hok, hm, hx⟩ := hi0.heap.of_heap (w' := { w0 with drawn := w0.drawn + 1 }) ⟨rfl, rfl, rfl⟩ rfl
 have hfalse : ∀ i, (Array.replicate ops.size false).getD i false = false := by
  intro i
  simp only [Array.getD_eq_getD_getElem?, Array.getElem?_replicate]
  split <;> rfl
 refine main ops.size _ 0 L0 a0 _ (by simp) ?_ (by omega) ⟨Nat.zero_le _, hfalse _, fun p x _ h => (by rw [hfalse] at h; cases h), ?_, by rw [h0]; exact hok, by rw [h0]; exact hi0.nx, hi0.base, hi0.size, hi0.defers, ?_, ?_, by rw [h0]; exact hx, fun _ _ => rfl⟩
 ·intro i o _ h; rw [hfalse] at h; cases h
 ·intro p x _ _; rw [hfalse]; simp
 ·intro p x _ h; rw [hfalse] at h; cases h
 ·intro k u _ hu
  exact RepV.keep hm u (hi0.env k u hu)
end
end Go.Abs
