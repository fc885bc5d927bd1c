/-
  Operations that only compute and read: one function for all of them ('lightV') and its law. No statement of the program stands here.
-/
import Derived.Test.YtbiadmfmjnoecaaA4
namespace Go.Abs
set_option linter.unusedSimpArgs false
set_option linter.unusedVariables false
open Go

/-- Is it nil? -/
def nilEq (P : Program) (t : TypeId) (p : PV) (c : Value) : Option Bool :=
  match c, P.underlying t, p with
  | .slice none _ _, some (.slice _), .t (.v (.slice none _ _)) => some true
  | .slice none _ _, some (.slice _), .t (.sl _ _) => some false
  | .slice none _ _, some (.slice _), .row _ _ _ _ => some false
  | .nilIface, some (.interface _), .t (.v .nilIface) => some true
  | .nilIface, some (.interface _), .t (.ic _ _) => some false
  | .nilIface, some (.interface _), .ic _ _ => some false
  | .pointer none, some (.pointer _), .t (.v (.pointer none)) => some true
  | .pointer none, some (.pointer _), .t (.pt _) => some false
  | .pointer none, some (.pointer _), .ptr _ _ => some false
  | .nilFunc, some (.func _ _ _), .t (.v .nilFunc) => some true
  | .nilFunc, some (.func _ _ _), .t (.v (.func _ _ _)) => some false
  | .nilFunc, some (.func _ _ _), .fn _ _ _ => some false
  | .map none, some (.map _ _), .t (.v (.map none)) => some true
  | .map none, some (.map _ _), .mp _ => some false
  | _, _, _ => none

theorem equal_of_in {P : Program} {t : TypeId} {x y : Value} {b : Bool} {w : World} (h : ∀ d, (Op.equalIn (d + 1) t x y).run P w = .ok b w) : (Op.equal t x y).run P w = .ok b w := by
  unfold Op.equal
  rw [show Op.maxDepth = 9999 + 1 from rfl]
  exact h _

section
variable {P : Program} {t : TypeId} (w : World)
theorem eq_sl {e : TypeId} (hu : P.underlying t = some (.slice e)) (A : Option Addr) (n c n' c' : Nat) : (Op.equal t (.slice A n c) (.slice none n' c')).run P w = .ok A.isNone w :=
  equal_of_in fun d => by cases A <;> simp [Op.equalIn, run_underlying hu]
theorem eq_nilIface {ms} (hu : P.underlying t = some (.interface ms)) : (Op.equal t .nilIface .nilIface).run P w = .ok true w := equal_of_in fun d => by simp [Op.equalIn, run_underlying hu]
theorem eq_iface {ms} (hu : P.underlying t = some (.interface ms)) (k : TypeId) (y : Value) : (Op.equal t (.iface k y) .nilIface).run P w = .ok false w := equal_of_in fun d => by simp [Op.equalIn, run_underlying hu]
theorem eq_ptr {e} (hu : P.underlying t = some (.pointer e)) (A : Option Addr) : (Op.equal t (.pointer A) (.pointer none)).run P w = .ok A.isNone w := equal_of_in fun d => by cases A <;> simp [Op.equalIn, run_underlying hu]
theorem eq_nilFunc {a b c} (hu : P.underlying t = some (.func a b c)) : (Op.equal t .nilFunc .nilFunc).run P w = .ok true w := equal_of_in fun d => by simp [Op.equalIn, run_underlying hu]
theorem eq_func {a b c} (hu : P.underlying t = some (.func a b c)) (f : Fn) (us vs : Array Value) : (Op.equal t (.func f us vs) .nilFunc).run P w = .ok false w := equal_of_in fun d => by simp [Op.equalIn, run_underlying hu]
theorem eq_map {k e} (hu : P.underlying t = some (.map k e)) (A : Option Nat) : (Op.equal t (.map A) (.map none)).run P w = .ok A.isNone w := equal_of_in fun d => by cases A <;> simp [Op.equalIn, run_underlying hu]
end

theorem nilEq_run {P : Program} {L : Loc} {w : World} {t : TypeId} {p : PV} {c u : Value} {b : Bool} (h : nilEq P t p c = some b) (hp : RepV P L w p u) (x : Operand) :
    (do eqGuard .eql t x (.const c) u c; binOp .eql t u c : Sem Value).run P w = .ok (.bool b) w ∧ (do eqGuard .neq t x (.const c) u c; binOp .neq t u c : Sem Value).run P w = .ok (.bool (!b)) w := by
  unfold nilEq at h
  split at h <;> (try cases h) <;> (simp only [RepV, RepT] at hp)
  · rename_i hu; subst hp; simp [eqGuard_at_slice, binOp, eq_sl w hu]
  · rename_i hu; obtain ⟨a, cc, rfl, _⟩ := hp; simp [eqGuard_at_slice, binOp, eq_sl w hu]
  · rename_i hu; obtain ⟨_, _, cc, rfl, _⟩ := hp; simp [eqGuard_at_slice, binOp, eq_sl w hu]
  · rename_i hu; subst hp; simp [eqGuard_nil_constR, binOp, eq_nilIface w hu]
  · rename_i hu; obtain ⟨y, rfl, _⟩ := hp; simp [eqGuard_at_iface, binOp, eq_iface w hu]
  · rename_i hu; obtain ⟨y, rfl, _⟩ := hp; simp [eqGuard_at_iface, binOp, eq_iface w hu]
  · rename_i hu; subst hp; simp [eqGuard_at_pointer, binOp, eq_ptr w hu]
  · rename_i hu; obtain ⟨b, o, rfl, _⟩ := hp; simp [eqGuard_at_pointer, binOp, eq_ptr w hu]
  · rename_i hu; obtain ⟨_, rfl⟩ := hp; simp [eqGuard_at_pointer, binOp, eq_ptr w hu]
  · rename_i hu; subst hp; simp [eqGuard_at_nilFunc, binOp, eq_nilFunc w hu]
  · rename_i hu; subst hp; simp [eqGuard_at_func, binOp, eq_func w hu]
  · rename_i hu; obtain ⟨us, vs, rfl, _⟩ := hp; simp [eqGuard_at_func, binOp, eq_func w hu]
  · rename_i hu; subst hp; simp [eqGuard_at_map, binOp, eq_map w hu]
  · rename_i hu; obtain ⟨_, rfl⟩ := hp; simp [eqGuard_at_map, binOp, eq_map w hu]

/-- A comparison with the literal nil. -/
def cmpNil (P : Program) (op : BinOp) (t : TypeId) (p : PV) (y : Operand) : Option PV :=
  match y with
  | .const c => match op with
    | .eql => (nilEq P t p c).map fun b => .t (.v (.bool b))
    | .neq => (nilEq P t p c).map fun b => .t (.v (.bool (!b)))
    | _ => none
  | _ => none

theorem cmpNil_run {P : Program} {L : Loc} {w : World} {t : TypeId} {op : BinOp} {p r : PV} {x y : Operand} {u : Value} {ρ : Operand → Value} (hconst : ∀ c, ρ (.const c) = c) (h : cmpNil P op t p y = some r) (hp : RepV P L w p u) :
    ∃ v, (do eqGuard op t x y u (ρ y); binOp op t u (ρ y) : Sem Value).run P w = .ok v w ∧ RepV P L w r v := by
  cases y with
  | const c =>
    simp only [cmpNil] at h
    rw [hconst]
    cases op <;> simp only at h <;> try cases h
    · cases hn : nilEq P t p c with
      | none => rw [hn] at h; cases h
      | some b =>
        rw [hn] at h
        injection h with h; subst h
        exact ⟨.bool b, (nilEq_run hn hp x).1, by simp only [RepV, RepT]⟩
    · cases hn : nilEq P t p c with
      | none => rw [hn] at h; cases h
      | some b =>
        rw [hn] at h
        injection h with h; subst h
        exact ⟨.bool (!b), (nilEq_run hn hp x).2, by simp only [RepV, RepT]⟩
  | tmp _ => simp [cmpNil] at h
  | global _ => simp [cmpNil] at h
  | func _ => simp [cmpNil] at h

/-- min and max of integers. -/
@[simp] def minV (p q : PV) : Option PV :=
  match p, q with
  | .t (.v (.int k x)), .t (.v (.int _ y)) => some (.t (.v (.int k (if y < x then y else x))))
  | _, _ => none
@[simp] def maxV (p q : PV) : Option PV :=
  match p, q with
  | .t (.v (.int k x)), .t (.v (.int _ y)) => some (.t (.v (.int k (if y > x then y else x))))
  | _, _ => none

theorem minV_run {P : Program} {L : Loc} {w : World} {p q r : PV} {u v : Value} (ts : Array TypeId) (ty : TypeId) (h : minV p q = some r) (hp : RepV P L w p u) (hq : RepV P L w q v) :
    ∃ x, (Builtin.min_ ts ty #[u, v]).run P w = .ok x w ∧ RepV P L w r x := by
  unfold minV at h
  split at h
  · rename_i k x k' y
    injection h with h; subst h
    simp only [RepV, RepT] at hp hq
    subst hp; subst hq
    exact ⟨.int k (if y < x then y else x), by simp [Builtin.min_, Builtin.min2], by simp only [RepV, RepT]⟩
  · cases h
theorem maxV_run {P : Program} {L : Loc} {w : World} {p q r : PV} {u v : Value} (ts : Array TypeId) (ty : TypeId) (h : maxV p q = some r) (hp : RepV P L w p u) (hq : RepV P L w q v) :
    ∃ x, (Builtin.max_ ts ty #[u, v]).run P w = .ok x w ∧ RepV P L w r x := by
  unfold maxV at h
  split at h
  · rename_i k x k' y
    injection h with h; subst h
    simp only [RepV, RepT] at hp hq
    subst hp; subst hq
    exact ⟨.int k (if y > x then y else x), by simp [Builtin.max_, Builtin.max2], by simp only [RepV, RepT]⟩
  · cases h

/-- A builtin that only computes. -/
def builtinV (P : Program) (b : Builtin) (args : List PV) (ts : List TypeId) : Option PV :=
  match b, args, ts with
  | .len, [x], [t] => lenV P t x
  | .min, [x, y], _ => minV x y
  | .max, [x, y], _ => maxV x y
  | _, _, _ => none

/-- What an operation that only computes and reads gives. -/
def lightV (P : Program) (H : Heap) (ev : Operand → PV) (o : Op) : Option PV :=
  match o with
  | .move x => some (ev x)
  | .assign x => some (ev x)
  | .pick c a b => match ev c with
    | .t (.v (.bool t)) => some (bif t then ev a else ev b)
    | _ => none
  | .binOp op t x y _ => match ev x, ev y with
    | .t (.v a), .t (.v b) => match binV P t op a b with
      | some v => some (.t (.v v))
      | none => cmpNil P op t (ev x) y
    | _, _ => cmpNil P op t (ev x) y
  | .unOp op _ x => match ev x with
    | .t (.v a) => (unV op a).map fun v => .t (.v v)
    | _ => none
  | .convert src dst x => match ev x with
    | .t (.v a) => (convV P src dst a).map fun v => .t (.v v)
    | _ => none
  | .load t a => loadV P H t (ev a)
  | .fieldAddr t x f => fieldAddrV P t (ev x) f
  | .field t x f => fieldV P t (ev x) f
  | .indexAddr t x i => indexAddrV P t (ev x) (ev i)
  | .index t x i => indexV P t (ev x) (ev i)
  | .slice t x lo hi none => sliceV P t (ev x) (lo.map ev) (hi.map ev)
  | .extract x i => extractV (ev x) i
  | .nilCheck x => match ev x with
    | .ptr b o => some (.ptr b o)
    | .t (.pt cs) => some (.t (.pt cs))
    | .fn (.func f) first cap => some (.fn (.func f) first cap)
    | .t (.v (.func (.func f) x y)) => some (.t (.v (.func (.func f) x y)))
    | _ => none
  | .call ⟨.builtin b, args, ts⟩ => builtinV P b (args.toList.map ev) ts.toList
  | _ => none

theorem lightV_run {P : Program} {G : Globs} {L : Loc} {H : Heap} {w : World} {ev : Operand → PV} {ρ : Operand → Value} {o : Oper} {r : PV} (hok : HeapOK P G L H w) (hev : ∀ x, RepV P L w (ev x) (ρ x))
    (hconst : ∀ c, ρ (.const c) = c) (h : lightV P H ev o.op = some r) : ∃ v, (execOp ρ o).run P w = .ok (.value v) w ∧ RepV P L w r v := by
  unfold lightV at h
  split at h
  · rename_i x ho
    injection h with h; subst h
    exact ⟨ρ x, by simp [execOp, ho], hev x⟩
  · rename_i x ho
    injection h with h; subst h
    exact ⟨ρ x, by simp [execOp, ho], hev x⟩
  · rename_i c a b ho
    split at h
    · rename_i t hc
      injection h with h; subst h
      have h1 := hev c
      rw [hc] at h1
      simp only [RepV, RepT] at h1
      cases t
      · exact ⟨ρ b, by simp [execOp, ho, h1, asBool], hev b⟩
      · exact ⟨ρ a, by simp [execOp, ho, h1, asBool], hev a⟩
    · cases h
  · rename_i op t x y yt ho
    have noconst : cmpNil P op t (ev x) y = some r → ∃ v, (execOp ρ o).run P w = .ok (.value v) w ∧ RepV P L w r v := by
      intro hh
      obtain ⟨v, hrun, hr⟩ := cmpNil_run (x := x) hconst hh (hev x)
      refine ⟨v, ?_, hr⟩
      simp only [execOp, ho, Sem.run_bind] at hrun ⊢
      rw [hrun]
      simp
    split at h
    · rename_i a b ha hb
      split at h
      · rename_i v hv
        injection h with h; subst h
        have h1 := hev x
        have h2 := hev y
        rw [ha] at h1
        rw [hb] at h2
        simp only [RepV, RepT] at h1 h2
        have := binV_run hv x y w
        refine ⟨v, ?_, by simp only [RepV, RepT]⟩
        simp only [execOp, ho, h1, h2, Sem.run_bind] at this ⊢
        rw [this]
        simp
      · exact noconst h
    · exact noconst h
  · rename_i op t x ho
    split at h
    · rename_i a ha
      cases hv : unV op a with
      | none => rw [hv] at h; cases h
      | some v =>
        rw [hv] at h
        injection h with h; subst h
        have h1 := hev x
        rw [ha] at h1
        simp only [RepV, RepT] at h1
        exact ⟨v, by simp [execOp, ho, h1, unV_run hv w], by simp only [RepV, RepT]⟩
    · cases h
  · rename_i src dst x ho
    split at h
    · rename_i a ha
      cases hv : convV P src dst a with
      | none => rw [hv] at h; cases h
      | some v =>
        rw [hv] at h
        injection h with h; subst h
        have h1 := hev x
        rw [ha] at h1
        simp only [RepV, RepT] at h1
        exact ⟨v, by simp [execOp, ho, h1, convV_run hv w], by simp only [RepV, RepT]⟩
    · cases h
  · rename_i t x ho
    obtain ⟨v, hrun, hr⟩ := loadV_run hok h (hev x)
    exact ⟨v, by simp [execOp, ho, hrun], hr⟩
  · rename_i t x f ho
    obtain ⟨v, hrun, hr⟩ := fieldAddrV_run h (hev x)
    exact ⟨v, by simp [execOp, ho, hrun], hr⟩
  · rename_i t x f ho
    obtain ⟨v, hrun, hr⟩ := fieldV_run h (hev x)
    exact ⟨v, by simp [execOp, ho, hrun], hr⟩
  · rename_i t x i ho
    obtain ⟨v, hrun, hr⟩ := indexAddrV_run h (hev x) (hev i)
    exact ⟨v, by simp [execOp, ho, hrun], hr⟩
  · rename_i t x i ho
    obtain ⟨v, hrun, hr⟩ := indexV_run h (hev x) (hev i)
    exact ⟨v, by simp [execOp, ho, hrun], hr⟩
  · rename_i t x lo hi ho
    have aux : ∀ (q : Option Operand), (∀ p, q.map ev = some p → ∃ u, q.map ρ = some u ∧ RepV P L w p u) ∧ (q.map ev = none → q.map ρ = none) := by
      intro q
      cases q with
      | none => simp
      | some q => exact ⟨fun p hp => by simp at hp; subst hp; exact ⟨ρ q, rfl, hev q⟩, by simp⟩
    obtain ⟨v, hrun, hr⟩ := sliceV_run hok (aux lo).1 (aux lo).2 (aux hi).1 (aux hi).2 h (hev x)
    exact ⟨v, by simp [execOp, ho, hrun], hr⟩
  · rename_i x i ho
    obtain ⟨v, hrun, hr⟩ := extractV_run h (hev x)
    exact ⟨v, by simp [execOp, ho, hrun], hr⟩
  · rename_i x ho
    have h1 := hev x
    split at h
    · rename_i b off hx
      injection h with h; subst h
      rw [hx] at h1
      refine ⟨ρ x, ?_, h1⟩
      simp only [RepV] at h1
      simp [execOp, ho, h1.2]
    · rename_i cs hx
      injection h with h; subst h
      rw [hx] at h1
      refine ⟨ρ x, ?_, h1⟩
      simp only [RepV, RepT] at h1
      obtain ⟨b, off, e, _⟩ := h1
      simp [execOp, ho, e]
    · rename_i f first cap hx
      injection h with h; subst h
      rw [hx] at h1
      refine ⟨ρ x, ?_, h1⟩
      simp only [RepV] at h1
      obtain ⟨us, vs, e, _⟩ := h1
      simp [execOp, ho, e]
    · rename_i f us vs hx
      injection h with h; subst h
      rw [hx] at h1
      refine ⟨ρ x, ?_, h1⟩
      simp only [RepV, RepT] at h1
      simp [execOp, ho, h1]
    · cases h
  · rename_i b args ts ho
    unfold builtinV at h
    split at h
    · rename_i x t hx ht
      obtain ⟨args⟩ := args
      obtain ⟨ts⟩ := ts
      simp only at hx ht
      cases args with
      | nil => simp at hx
      | cons y args =>
        simp only [List.map_cons, List.cons.injEq, List.map_eq_nil_iff] at hx
        obtain ⟨rfl, rfl⟩ := hx
        subst ht
        obtain ⟨v, hrun, hr⟩ := lenV_run (ty := o.type) h (hev y)
        exact ⟨v, by simp [execOp, ho, resolve, invoke, builtin, hrun], hr⟩
    · rename_i x y ts' hx
      obtain ⟨args⟩ := args
      simp only at hx
      cases args with
      | nil => simp at hx
      | cons p args => cases args with
        | nil => simp at hx
        | cons q args =>
          simp only [List.map_cons, List.cons.injEq, List.map_eq_nil_iff] at hx
          obtain ⟨rfl, rfl, rfl⟩ := hx
          obtain ⟨v, hrun, hr⟩ := minV_run ts o.type h (hev p) (hev q)
          exact ⟨v, by simp [execOp, ho, resolve, invoke, builtin, hrun], hr⟩
    · rename_i x y ts' hx
      obtain ⟨args⟩ := args
      simp only at hx
      cases args with
      | nil => simp at hx
      | cons p args => cases args with
        | nil => simp at hx
        | cons q args =>
          simp only [List.map_cons, List.cons.injEq, List.map_eq_nil_iff] at hx
          obtain ⟨rfl, rfl, rfl⟩ := hx
          obtain ⟨v, hrun, hr⟩ := maxV_run ts o.type h (hev p) (hev q)
          exact ⟨v, by simp [execOp, ho, resolve, invoke, builtin, hrun], hr⟩
    · cases h
  · cases h

theorem aop_lightV {P : Program} {G : Globs} {B : Nat} {s : AState} {o : Oper} {r : PV} (h : lightV P s.H (s.ev G) o.op = some r) : AOp P G B o s r s.H s.nx :=
  aop_light fun _ _ _ hi => lightV_run hi.heap hi.ev (fun _ => rfl) h

end Go.Abs
