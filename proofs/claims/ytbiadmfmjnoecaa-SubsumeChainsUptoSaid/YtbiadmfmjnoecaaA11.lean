/-
  Operations with all that hangs on types worked out ahead ('MK', 'evalK'): a compact form of the code, compiled from the program's own. No statement of the program stands here.
-/
import Derived.Test.YtbiadmfmjnoecaaA10
namespace Go.Abs
set_option linter.unusedSimpArgs false
set_option linter.unusedVariables false
open Go

inductive Opd where
  | tmp (t : Nat)
  | k (p : PV)

@[simp] def Opd.ev (env : List (Nat × PV)) : Opd → PV
  | .tmp t => (look env t).getD .dead
  | .k p => p

def compOpd (G : Globs) : Operand → Opd
  | .tmp t => .tmp t
  | .const x => .k (ofConst x)
  | .global g => .k (match look G g with
    | some cs => .t (.pt cs)
    | none => .t (.v (.pointer (some ⟨g, 0, none⟩))))
  | .func f => .k (.t (.v (.func (.func f) #[] #[])))

theorem compOpd_ev (G : Globs) (s : AState) (x : Operand) : (compOpd G x).ev s.env = s.ev G x := by cases x <;> rfl

/-- Kinds of nil. -/
inductive NK where
  | sl | ifc | ptr | fn | mp

/-- Kinds of operations. -/
inductive MK where
  | mv
  | pick
  | bin (isB : Bool) (op : BinOp) (nk : Option NK)
  | un (op : UnOp)
  | conv (k : Option IntKind)
  | load (agg : Bool) (n : Nat)
  | faddr (off : Nat)
  | field (off : Nat) (agg : Bool) (n : Nat)
  | iaddr (z : Nat)
  | aaddr (len z : Nat)
  | index
  | slstr (lo hi : Bool)
  | slice (z : Nat) (lo hi : Bool)
  | ext (i : Nat)
  | chk
  | lenstr
  | lensl
  | min
  | max
  | store (n : Nat)
  | make (e n by' : Nat) (zc : List Value)
  | bslice (e n : Nat) (zc : List Value) (len : Nat) (idx : List Nat)
  | build (places : List (Nat × Nat)) (zc : List Value) (idx : List Nat)
  | barr (n : Nat) (zc : List Value) (idx : List Nat)
  | box (t : Nat)
  | alloc (t : Nat) (zc : List Value)
  | app (e n by' : Nat)
  | call (f : Nat)
  | hcall (f : Nat)
  | callv
  | tslice (e n : Nat) (zc : List Value) (len : Nat) (idx : List Nat)
  | bad

def isBoolT (P : Program) (t : TypeId) : Bool := match P.underlying t with | some .bool => true | _ => false

/-- An operator on two plain values. -/
@[simp] def binM (isB : Bool) (op : BinOp) (x y : Value) : Option Value :=
  match x, y with
  | .int k a, .int k' b =>
    match op with
    | .shl => if b < 0 then none else some (.int k (k.wrap (a * 2 ^ (min b.toNat k.bits))))
    | .shr => if b < 0 then none else some (.int k (a.fdiv (2 ^ (min b.toNat k.bits))))
    | .add => if k = k' then some (.int k (k.wrap (a + b))) else none
    | .sub => if k = k' then some (.int k (k.wrap (a - b))) else none
    | .mul => if k = k' then some (.int k (k.wrap (a * b))) else none
    | .quo => if k = k' then (if b = 0 then none else some (.int k (k.wrap (a.tdiv b)))) else none
    | .rem => if k = k' then (if b = 0 then none else some (.int k (a.tmod b))) else none
    | .and => if k = k' then some (.int k (k.wrap (BitVec.ofInt k.bits a &&& BitVec.ofInt k.bits b).toNat)) else none
    | .or => if k = k' then some (.int k (k.wrap (BitVec.ofInt k.bits a ||| BitVec.ofInt k.bits b).toNat)) else none
    | .xor => if k = k' then some (.int k (k.wrap (BitVec.ofInt k.bits a ^^^ BitVec.ofInt k.bits b).toNat)) else none
    | .andNot => if k = k' then some (.int k (k.wrap (BitVec.ofInt k.bits a &&& ~~~ (BitVec.ofInt k.bits b)).toNat)) else none
    | .eql => if k = k' then some (.bool (a == b)) else none
    | .neq => if k = k' then some (.bool (a != b)) else none
    | .lss => if k = k' then some (.bool (decide (a < b))) else none
    | .leq => if k = k' then some (.bool (decide (a ≤ b))) else none
    | .gtr => if k = k' then some (.bool (decide (b < a))) else none
    | .geq => if k = k' then some (.bool (decide (b ≤ a))) else none
  | .string a, .string b =>
    match op with
    | .add => if a.size + b.size ≤ 9223372036854775807 then some (.string (a ++ b)) else none
    | .eql => some (.bool (a.toList == b.toList))
    | .neq => some (.bool (!(a.toList == b.toList)))
    | .lss => some (.bool (Op.bytesLess a.toList b.toList))
    | .leq => some (.bool (Op.bytesLess a.toList b.toList || a.toList == b.toList))
    | .gtr => some (.bool (!(Op.bytesLess a.toList b.toList || a.toList == b.toList)))
    | .geq => some (.bool (!(Op.bytesLess a.toList b.toList)))
    | _ => none
  | .bool a, .bool b =>
    match op, isB with
    | .eql, true => some (.bool (a == b))
    | .neq, true => some (.bool (!(a == b)))
    | _, _ => none
  | _, _ => none

theorem binM_eq (P : Program) (t : TypeId) (op : BinOp) (x y : Value) : binV P t op x y = binM (isBoolT P t) op x y := by
  unfold binV binM isBoolT
  cases x <;> cases y <;> try rfl
  case bool.bool a b =>
    simp only
    cases hu : P.underlying t with
    | none => cases op <;> rfl
    | some d => cases d <;> cases op <;> rfl

@[simp] def nilM (nk : NK) (p : PV) : Option Bool :=
  match nk, p with
  | .sl, .t (.v (.slice none _ _)) => some true
  | .sl, .t (.sl _ _) => some false
  | .sl, .row _ _ _ _ => some false
  | .ifc, .t (.v .nilIface) => some true
  | .ifc, .t (.ic _ _) => some false
  | .ifc, .ic _ _ => some false
  | .ptr, .t (.v (.pointer none)) => some true
  | .ptr, .t (.pt _) => some false
  | .ptr, .ptr _ _ => some false
  | .fn, .t (.v .nilFunc) => some true
  | .fn, .t (.v (.func _ _ _)) => some false
  | .fn, .fn _ _ _ => some false
  | .mp, .t (.v (.map none)) => some true
  | .mp, .mp _ => some false
  | _, _ => none

def nkOf (P : Program) (t : TypeId) : Operand → Option NK
  | .const (.slice none _ _) => match P.underlying t with | some (.slice _) => some .sl | _ => none
  | .const .nilIface => match P.underlying t with | some (.interface _) => some .ifc | _ => none
  | .const (.pointer none) => match P.underlying t with | some (.pointer _) => some .ptr | _ => none
  | .const .nilFunc => match P.underlying t with | some (.func _ _ _) => some .fn | _ => none
  | .const (.map none) => match P.underlying t with | some (.map _ _) => some .mp | _ => none
  | _ => none

@[simp] def cmpM (op : BinOp) (nk : Option NK) (p : PV) : Option PV :=
  match nk with
  | some n => match op with
    | .eql => (nilM n p).map fun b => .t (.v (.bool b))
    | .neq => (nilM n p).map fun b => .t (.v (.bool (!b)))
    | _ => none
  | none => none

theorem cmpM_sub (P : Program) (op : BinOp) (t : TypeId) (p : PV) (y : Operand) {r : PV} (h : cmpM op (nkOf P t y) p = some r) : cmpNil P op t p y = some r := by
  have key : ∀ c n b, nkOf P t (.const c) = some n → nilM n p = some b → nilEq P t p c = some b := by
    intro c n b hn hb
    unfold nkOf at hn
    split at hn <;> (try cases hn) <;> (rename_i hc; injection hc with hc; subst hc; split at hn <;> (try cases hn))
    all_goals (rename_i hu; unfold nilEq; rw [hu]; unfold nilM at hb; split at hb <;> (try cases hb) <;> first | rfl | contradiction)
  cases y with
  | const c =>
    simp only [cmpM] at h
    split at h
    · rename_i n hn
      simp only [cmpNil]
      cases op <;> simp only at h ⊢ <;> try cases h
      all_goals
        cases hb : nilM n p with
        | none => rw [hb] at h; cases h
        | some b => rw [hb] at h; rw [key c n b hn hb]; exact h
    · cases h
  | tmp _ => simp [nkOf, cmpM] at h
  | global _ => simp [nkOf, cmpM] at h
  | func _ => simp [nkOf, cmpM] at h

end Go.Abs
