/-
  Running code that bears no loop, over abstract states ('runCode'), given what the called functions return ('Φ'); regions that draw their order. No statement of the program stands here.
-/
import Derived.Test.YtbiadmfmjnoecaaA9p
namespace Go.Abs
set_option linter.unusedSimpArgs false
set_option linter.unusedVariables false
open Go

/-- What called functions return: over trees, and over rows. -/
structure Oracle where
  t : FuncId → List T → Option T
  h : FuncId → List PV → Heap → Nat → Option (PV × Heap × Nat)

instance : CoeFun Oracle (fun _ => FuncId → List T → Option T) := ⟨Oracle.t⟩

structure Oracle.Sound (P : Program) (G : Globs) (Φ : Oracle) : Prop where
  t : ∀ f args r, Φ.t f args = some r → CallT P G f args (· = r)
  h : ∀ f ps H nx r H' nx', Φ.h f ps H nx = some (r, H', nx') → CallP P G f ps H nx r H' nx'
  fresh : ∀ f ps H nx r H' nx', Φ.h f ps H nx = some (r, H', nx') → (∀ b x, look H b = some x → b < nx) → ∀ b x, look H' b = some x → b < nx'

/-- Does a type bear what may refer to rows? -/
def refT (P : Program) (t : TypeId) : Bool :=
  match P.underlying t with
  | some (.pointer _) | some (.func _ _ _) | some (.map _ _) => true
  | _ => false

/-- The functions whose slices their callers write to: their results stay rows. -/
def hot : List Nat := [92]

/-- A call of a function value. -/
def callvM (Φ : Oracle) (H : Heap) (nx : Nat) (fv : PV) (ps : List PV) : Option (PV × Heap × Nat) :=
  match fv with
  | .t (.v (.func (.func f) ⟨[]⟩ ⟨[]⟩)) => Φ.h f ps H nx
  | .fn (.func f) first cap => Φ.h f (first ++ ps ++ cap) H nx
  | _ => none

/-- An operation's value, and the rows behind it. -/
def valV (P : Program) (G : Globs) (Φ : Oracle) (s : AState) (o : Op) : Option (PV × Heap × Nat) :=
  match o with
  | .call ⟨.value (.func f), args, ts⟩ => if ts.toList.any (refT P) || hot.contains f then Φ.h f (args.toList.map (s.ev G)) s.H s.nx else
    (match toTs s.H (args.toList.map (s.ev G)) with
    | some (targs, F) => match Φ f targs with
      | some r => some (.t r, if F.isEmpty then s.H else if plainT r then s.H else remAll s.H F, s.nx)
      | none => none
    | none => none)
  | .call ⟨.value x, args, _⟩ => callvM Φ s.H s.nx (s.ev G x) (args.toList.map (s.ev G))
  | o => opV P s.H s.nx (s.ev G) o

section
variable {P : Program} {G : Globs} {B : Nat} {s : AState} {o : Oper} {Φ : Oracle}

theorem aop_valV (hΦ : Φ.Sound P G) {r : PV} {H' : Heap} {nx' : Nat} (h : valV P G Φ s o.op = some (r, H', nx')) : AOp P G B o s r H' nx' := by
  unfold valV at h
  split at h
  · rename_i f args ts ho
    split at h
    · exact aop_callP ho (hΦ.h _ _ _ _ _ _ _ h)
    · split at h
      · rename_i targs F hT
        split at h
        · rename_i q hq
          injection h with h; injection h with h1 h2; injection h2 with h2 h3; subst h1; subst h3
          have := aop_callT (B := B) ho hT (hΦ.t f targs q hq)
          cases hF : F.isEmpty with
          | true =>
            have : F = [] := by simpa using hF
            subst this
            simp only [List.isEmpty_nil, if_true] at h2
            subst h2
            rename_i this
            have e : (if plainT q = true then s.H else remAll s.H []) = s.H := by split <;> rfl
            rw [e] at this
            exact this
          | false =>
            rw [hF] at h2
            simp only [Bool.false_eq_true, if_false] at h2
            subst h2
            exact this
        · cases h
      · cases h
  · rename_i x args ts hne ho
    unfold callvM at h
    split at h
    · rename_i f hx
      exact aop_callV ho hx (hΦ.h _ _ _ _ _ _ _ h)
    · rename_i f first cap hx
      exact aop_callF ho hx (hΦ.h _ _ _ _ _ _ _ h)
    · cases h
  · exact aop_opV h

/-- One operation, in the text's order. -/
def stepOp (P : Program) (G : Globs) (Φ : Oracle) (ops : Array Oper) (s : AState) (o : Oper) : Option AState :=
  if o.dst.all (· < s.n) then
    match s.wants ops o with
    | some true => match valV P G Φ s o.op with
      | some (r, H', nx') => some (({ s with H := H', nx := nx' } : AState).put o.dst r)
      | none => none
    | some false => some (s.put o.dst (.t (.v undef)))
    | none => none
  else none

def runOps (P : Program) (G : Globs) (Φ : Oracle) (ops : Array Oper) : List Oper → AState → Option AState
  | [], s => some s
  | o :: rest, s => match stepOp P G Φ ops s o with
    | some s' => runOps P G Φ ops rest s'
    | none => none

theorem runOps_sound (hΦ : Φ.Sound P G) {ops : Array Oper} {Q : AState → Prop} : ∀ (l : List Oper) {s s' : AState}, runOps P G Φ ops l s = some s' → Q s' → AOps P G B ops l Q s
  | [], s, s', h, hq => by
    simp only [runOps, Option.some.injEq] at h
    subst h
    exact aops_nil hq
  | o :: rest, s, s', h, hq => by
    simp only [runOps] at h
    split at h
    · rename_i s1 h1
      unfold stepOp at h1
      split at h1
      · rename_i hd
        have hd' : ∀ k, o.dst = some k → k < s.n := by
          intro k hk
          rw [hk] at hd
          simpa using hd
        split at h1
        · rename_i hw
          split at h1
          · rename_i r H' nx' hv
            injection h1 with h1
            subst h1
            exact aops_cons hw hd' (aop_valV hΦ hv) (runOps_sound hΦ rest h hq)
          · cases h1
        · rename_i hw
          injection h1 with h1
          subst h1
          exact aops_skip hw hd' (runOps_sound hΦ rest h hq)
        · cases h1
      · cases h1
    · cases h
end

/-! Regions that draw their order. -/

/-- Which operations come before each, by their numbers' bits. -/
def ancs : List Oper → List Nat → List Nat
  | [], acc => acc
  | o :: rest, acc => ancs rest (acc ++ [(o.after.toList.filter (Region.binds .any)).foldl (fun m e => m ||| 2 ^ e.on ||| acc.getD e.on 0) 0])

/-- The slots that an operation looks at. -/
def eyes (ops : Array Oper) (o : Oper) : List Tmp := o.looksAt ops

/-- A region whose first m operations may go in any order that the edges allow, and whose others go in the text's order behind them. -/
def drawOK (ops : Array Oper) (m : Nat) : Bool :=
  let A := ancs ops.toList []
  let before (i j : Nat) : Bool := (A.getD j 0).testBit i
  ops.toList.zipIdx.all fun (o, i) =>
    (o.after.toList.all fun e => decide (e.on < i) || !Region.binds .any e) &&
    (if m ≤ i then (List.range i).all fun j => before j i
     else ops.toList.zipIdx.all fun (o', j) => match o'.dst with
      | some d => (if (eyes ops o).contains d then (decide (j < i) && before j i) || before i j else true) && (i == j || m ≤ j || o.dst != some d)
      | none => true)

section
variable {ops : Array Oper}

/-- A set of listed operations that holds what comes before each of them. -/
def Closed (ops : Array Oper) (S : Array Bool) : Prop := ∀ (i : Nat) o, ops[i]? = some o → S.getD i false = true → ∀ e ∈ o.after.toList, Region.binds .any e = true → S.getD e.on false = true

theorem foldl_or_bit (acc : List Nat) (i : Nat) : ∀ (es : List Edge) (m : Nat), (es.foldl (fun m e => m ||| 2 ^ e.on ||| acc.getD e.on 0) m).testBit i = true → m.testBit i = true ∨ ∃ e ∈ es, e.on = i ∨ (acc.getD e.on 0).testBit i = true
  | [], m, h => .inl h
  | e :: es, m, h => by
    simp only [List.foldl_cons] at h
    rcases foldl_or_bit acc i es _ h with h | ⟨e', he', h⟩
    · simp only [Nat.testBit_or, Bool.or_eq_true] at h
      rcases h with (h | h) | h
      · exact .inl h
      · rw [Nat.testBit_two_pow] at h
        exact .inr ⟨e, by simp, .inl (by simpa using h)⟩
      · exact .inr ⟨e, by simp, .inr h⟩
    · exact .inr ⟨e', by simp [he'], h⟩

theorem ancs_sound {S : Array Bool} (hS : Closed ops S) : ∀ (rest done : List Oper) (acc : List Nat), ops.toList = done ++ rest → acc.length = done.length →
    (∀ (j : Nat) i o, done[j]? = some o → (acc.getD j 0).testBit i = true → (∀ e ∈ o.after.toList, Region.binds .any e = true → S.getD e.on false = true) → S.getD i false = true) →
    ∀ (j : Nat) i o, ops[j]? = some o → ((ancs rest acc).getD j 0).testBit i = true → (∀ e ∈ o.after.toList, Region.binds .any e = true → S.getD e.on false = true) → S.getD i false = true
  | [], done, acc, he, hl, h => by
    intro j i o ho hb hp
    refine h j i o ?_ hb hp
    have : ops.toList[j]? = some o := by simpa using ho
    rwa [he, List.append_nil] at this
  | q :: rest, done, acc, he, hl, h => by
    refine ancs_sound hS rest (done ++ [q]) _ (by simp [he]) (by simp [hl]) ?_
    intro j i o ho hb hp
    by_cases hj : j < done.length
    · rw [List.getElem?_append_left hj] at ho
      rw [List.getD_eq_getElem?_getD, List.getElem?_append_left (by omega), ← List.getD_eq_getElem?_getD] at hb
      exact h j i o ho hb hp
    · have hj2 : j = done.length := by
        have := (List.getElem?_eq_some_iff.1 ho).1
        simp at this
        omega
      subst hj2
      simp only [List.getElem?_append_right (Nat.le_refl _), Nat.sub_self, List.getElem?_cons_zero, Option.some.injEq] at ho
      subst ho
      rw [List.getD_eq_getElem?_getD, ← hl, List.getElem?_append_right (Nat.le_refl _)] at hb
      simp only [Nat.sub_self, List.getElem?_cons_zero, Option.getD_some] at hb
      rcases foldl_or_bit acc i _ 0 hb with hb | ⟨e, he', hb⟩
      · simp at hb
      · obtain ⟨he1, he2⟩ := List.mem_filter.1 he'
        have hpe := hp e he1 he2
        rcases hb with rfl | hb
        · exact hpe
        · -- e.on is done, and listed: what comes before it is listed too
          by_cases hlt : e.on < done.length
          · obtain ⟨oe, hoe⟩ : ∃ oe, done[e.on]? = some oe := ⟨_, List.getElem?_eq_getElem hlt⟩
            refine h e.on i oe hoe hb ?_
            refine hS e.on oe ?_ hpe
            have : ops.toList[e.on]? = some oe := by rw [he, List.getElem?_append_left hlt]; exact hoe
            simpa using this
          · rw [List.getD_eq_getElem?_getD, List.getElem?_eq_none (by omega)] at hb
            simp at hb

theorem before_listed {S : Array Bool} (hS : Closed ops S) {i j : Nat} {o : Oper} (ho : ops[j]? = some o) (hb : ((ancs ops.toList []).getD j 0).testBit i = true)
    (hp : ∀ e ∈ o.after.toList, Region.binds .any e = true → S.getD e.on false = true) : S.getD i false = true :=
  ancs_sound hS ops.toList [] [] (by simp) rfl (by simp) j i o ho hb hp
end
end Go.Abs
