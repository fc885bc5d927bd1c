/-
  Running compact code towards an end ('runsM'): the same as 'runM', in a form that a simplifier walks. No statement of the program stands here.
-/
import Derived.Test.YtbiadmfmjnoecaaA16
namespace Go.Abs
set_option linter.unusedSimpArgs false
set_option linter.unusedVariables false
open Go

/-- What is to be shown of a value that must be there. -/
def ifSome {α : Type} (x : Option α) (K : α → Prop) : Prop :=
  match x with
  | some a => K a
  | none => False

@[simp] theorem ifSome_some {α : Type} (a : α) (K : α → Prop) : ifSome (some a) K = K a := rfl
@[simp] theorem ifSome_none {α : Type} (K : α → Prop) : ifSome (none : Option α) K = False := rfl
@[simp] theorem ifSome_map {α β : Type} (x : Option α) (f : α → β) (K : β → Prop) : ifSome (x.map f) K = ifSome x fun a => K (f a) := by cases x <;> rfl

theorem ifSome_elim {α : Type} {x : Option α} {K : α → Prop} (h : ifSome x K) : ∃ a, x = some a ∧ K a := by
  cases x with
  | none => exact h.elim
  | some a => exact ⟨a, rfl, h⟩

/-- Where a guarded operation goes. -/
def onWants (x : Option Bool) (yes no : Prop) : Prop :=
  match x with
  | some true => yes
  | some false => no
  | none => False

@[simp] theorem onWants_true (yes no : Prop) : onWants (some true) yes no = yes := rfl
@[simp] theorem onWants_false (yes no : Prop) : onWants (some false) yes no = no := rfl

def AState.set (s : AState) (d : Option Nat) (q : PV × Heap × Nat) : AState :=
  match d with
  | some k => ⟨(k, q.1) :: s.env, q.2.1, q.2.2, s.n⟩
  | none => ⟨s.env, q.2.1, q.2.2, s.n⟩

theorem set_put (s : AState) (d : Option Nat) (r : PV) (H : Heap) (nx : Nat) : s.set d (r, H, nx) = ({ s with H := H, nx := nx } : AState).put d r := by cases d <;> rfl

def stepsM (Φ : Oracle) (s : AState) (m : Mini) (K : AState → Prop) : Prop :=
  onWants (m.wants s.env) (ifSome (evalK Φ s.H s.nx m.k (m.xs.map (·.ev s.env))) fun q => K (s.set m.dst q)) (K (s.set m.dst (.t (.v undef), s.H, s.nx)))

def runsL (Φ : Oracle) : List Mini → AState → (AState → Prop) → Prop
  | [], s, K => K s
  | m :: r, s, K => stepsM Φ s m fun s' => runsL Φ r s' K

/-- The same in a region that draws its order: a call's rows stay. -/
def stepsD (Φ : Oracle) (s : AState) (m : Mini) (K : AState → Prop) : Prop :=
  if quietK m.k then onWants (m.wants s.env) (ifSome (evalQ Φ s.H s.nx m.k (m.xs.map (·.ev s.env))) fun v => K (s.set m.dst (v, s.H, s.nx))) (K (s.set m.dst (.t (.v undef), s.H, s.nx)))
  else stepsM Φ s m K

def runsD (Φ : Oracle) : List Mini → AState → (AState → Prop) → Prop
  | [], s, K => K s
  | m :: r, s, K => stepsD Φ s m fun s' => runsD Φ r s' K

/-- Looks again. -/
def agains (Φ : Oracle) (pd : Pend) (H : Heap) (nx : Nat) : List Nat → Prop → Prop
  | [], K => K
  | i :: r, K => ifSome (look pd i) fun x => evalQ Φ H nx x.1 x.2.1 = some x.2.2 ∧ agains Φ pd H nx r K

def runsG (Φ : Oracle) (k : Nat) : Nat → Nat → Pend → List GI → AState → (AState → Prop) → Prop
  | _, _, _, [], s, K => K s
  | n, b, pd, .o m kp ag :: r, s, K => ifSome (valD Φ s m) fun q => agains Φ pd q.2.1 q.2.2 ag (runsG Φ k (n + 1) b (keepG kp n m s q.1 pd) r (s.set m.dst q) K)
  | n, b, pd, .g j m :: r, s, K => ifSome (evalK Φ s.H ((if j = 0 then s.nx else b) + k + j) m.k (m.xs.map (·.ev s.env))) fun q => runsG Φ k (n + 1) (if j = 0 then s.nx else b) pd r (s.set m.dst (q.1, q.2.1, (if j = 0 then s.nx else b) + 2 * k)) K

/-- Behind a piece of code. -/
def onNormal (K : AState → Prop) (Q : Exit → AState → Prop) : Exit → AState → Prop
  | .normal, s => K s
  | e, s => Q e s

@[simp] theorem onNormal_normal (K : AState → Prop) (Q : Exit → AState → Prop) (s : AState) : onNormal K Q .normal s = K s := rfl
@[simp] theorem onNormal_ret (K : AState → Prop) (Q : Exit → AState → Prop) (s : AState) : onNormal K Q .ret s = Q .ret s := rfl
@[simp] theorem onNormal_exit (K : AState → Prop) (Q : Exit → AState → Prop) (i : Nat) (s : AState) : onNormal K Q (.exit i) s = Q (.exit i) s := rfl
@[simp] theorem inBlock_normal (i : Nat) (Q : Exit → AState → Prop) (s : AState) : InBlock i Q .normal s = Q .normal s := rfl
@[simp] theorem inBlock_ret (i : Nat) (Q : Exit → AState → Prop) (s : AState) : InBlock i Q .ret s = Q .ret s := rfl
@[simp] theorem inBlock_exit (i j : Nat) (Q : Exit → AState → Prop) (s : AState) : InBlock i Q (.exit j) s = if j = i then Q .normal s else Q (.exit j) s := rfl

@[simp] theorem noGoto_normal (Q : Exit → AState → Prop) (s : AState) : NoGoto Q .normal s = Q .normal s := rfl
@[simp] theorem noGoto_ret (Q : Exit → AState → Prop) (s : AState) : NoGoto Q .ret s = Q .ret s := rfl
@[simp] theorem noGoto_exit (i : Nat) (Q : Exit → AState → Prop) (s : AState) : NoGoto Q (.exit i) s = Q (.exit i) s := rfl

def onBool (p : PV) (yes no : Prop) : Prop :=
  match p with
  | .t (.v (.bool true)) => yes
  | .t (.v (.bool false)) => no
  | _ => False

@[simp] theorem onBool_true (yes no : Prop) : onBool (.t (.v (.bool true))) yes no = yes := rfl
@[simp] theorem onBool_false (yes no : Prop) : onBool (.t (.v (.bool false))) yes no = no := rfl

def runsM (Φ : Oracle) : MCode → AState → (Exit → AState → Prop) → Prop
  | .skip, s, Q => Q .normal s
  | .ops l, s, Q => runsL Φ l s (Q .normal)
  | .draw l, s, Q => runsD Φ l s (Q .normal)
  | .drawG k l, s, Q => runsG Φ k 0 0 [] l s (Q .normal)
  | .seq a b, s, Q => runsM Φ a s (onNormal (fun s1 => runsM Φ b s1 Q) Q)
  | .cond c a b, s, Q => onBool (c.ev s.env) (runsM Φ a s Q) (runsM Φ b s Q)
  | .block id b, s, Q => runsM Φ b s (InBlock id Q)
  | .loop _, _, _ => False
  | .exit id, s, Q => Q (.exit id) s
  | .ret, s, Q => Q .ret s
  | .scope b, s, Q => runsM Φ b s (NoGoto Q)

section
variable {P : Program} {G : Globs} {B N : Nat} {Φ : Oracle}

theorem stepsM_run {s : AState} {m : Mini} {K : AState → Prop} (h : stepsM Φ s m K) : ∃ s', stepM Φ s m = some s' ∧ K s' := by
  unfold stepsM at h
  unfold stepM
  cases hw : m.wants s.env with
  | none => rw [hw] at h; exact h.elim
  | some b =>
    rw [hw] at h
    cases b with
    | true =>
      obtain ⟨⟨r, H', nx'⟩, hq, hk⟩ := ifSome_elim h
      exact ⟨_, by simp only [hq]; rfl, by rw [set_put] at hk; exact hk⟩
    | false => exact ⟨_, rfl, by simp only [onWants_false, set_put] at h; exact h⟩

theorem runsL_run : ∀ {l : List Mini} {s : AState} {K : AState → Prop}, runsL Φ l s K → ∃ s', runL Φ l s = some s' ∧ K s'
  | [], s, K, h => ⟨s, rfl, h⟩
  | m :: r, s, K, h => by
    obtain ⟨s1, h1, h2⟩ := stepsM_run h
    obtain ⟨s2, h3, h4⟩ := runsL_run h2
    exact ⟨s2, by simp only [runL, h1, h3], h4⟩

theorem stepsD_run {s : AState} {m : Mini} {K : AState → Prop} (h : stepsD Φ s m K) : ∃ s', stepD Φ s m = some s' ∧ K s' := by
  unfold stepsD at h
  unfold stepD
  split at h
  · rename_i hq
    rw [if_pos hq]
    unfold valQ
    cases hw : m.wants s.env with
    | none => rw [hw] at h; exact h.elim
    | some b =>
      rw [hw] at h
      cases b with
      | true =>
        obtain ⟨v, hv, hk⟩ := ifSome_elim h
        exact ⟨_, by simp only [hv]; rfl, by rw [set_put] at hk; exact hk⟩
      | false => exact ⟨_, rfl, by simp only [onWants_false, set_put] at h; exact h⟩
  · rename_i hq
    rw [if_neg hq]
    exact stepsM_run h

theorem runsD_run : ∀ {l : List Mini} {s : AState} {K : AState → Prop}, runsD Φ l s K → ∃ s', runD Φ l s = some s' ∧ K s'
  | [], s, K, h => ⟨s, rfl, h⟩
  | m :: r, s, K, h => by
    obtain ⟨s1, h1, h2⟩ := stepsD_run h
    obtain ⟨s2, h3, h4⟩ := runsD_run h2
    exact ⟨s2, by simp only [runD, h1, h3], h4⟩

theorem agains_run {pd : Pend} {H : Heap} {nx : Nat} {K : Prop} : ∀ {ks : List Nat}, agains Φ pd H nx ks K → agnP Φ pd H nx ks ∧ K
  | [], h => ⟨fun i hi => by simp at hi, h⟩
  | i :: r, h => by
    obtain ⟨x, hx, he, hr⟩ := ifSome_elim h
    obtain ⟨h1, h2⟩ := agains_run hr
    refine ⟨fun j hj => ?_, h2⟩
    rcases List.mem_cons.1 hj with rfl | hj
    · exact ⟨x, hx, he⟩
    · exact h1 j hj

theorem runsG_run {k : Nat} : ∀ (l : List GI) {n b : Nat} {pd : Pend} {s : AState} {K : AState → Prop}, runsG Φ k n b pd l s K → ∃ s', runG Φ k n b pd l s = some s' ∧ K s'
  | [], n, b, pd, s, K, h => ⟨s, rfl, h⟩
  | .o m kp ag :: r, n, b, pd, s, K, h => by
    obtain ⟨⟨v, H', nx'⟩, hv, hk⟩ := ifSome_elim h
    obtain ⟨h1, h2⟩ := agains_run hk
    rw [set_put] at h2
    obtain ⟨s', h3, h4⟩ := runsG_run r h2
    exact ⟨s', by simp only [runG, hv, if_pos h1, h3], h4⟩
  | .g j m :: r, n, b, pd, s, K, h => by
    obtain ⟨⟨v, H', nx'⟩, hv, hk⟩ := ifSome_elim h
    rw [set_put] at hk
    obtain ⟨s', h3, h4⟩ := runsG_run r hk
    exact ⟨s', by simp only [runG, hv, h3], h4⟩

theorem runsM_run : ∀ (M : MCode) {s : AState} {Q : Exit → AState → Prop}, runsM Φ M s Q → ∃ e s', runM Φ M s = some (e, s') ∧ Q e s'
  | .skip, s, Q, h => ⟨_, _, rfl, h⟩
  | .ops l, s, Q, h => by
    obtain ⟨s1, h1, h2⟩ := runsL_run h
    exact ⟨_, s1, by simp only [runM, h1], h2⟩
  | .draw l, s, Q, h => by
    obtain ⟨s1, h1, h2⟩ := runsD_run h
    exact ⟨_, s1, by simp only [runM, h1], h2⟩
  | .drawG k l, s, Q, h => by
    obtain ⟨s1, h1, h2⟩ := runsG_run l h
    exact ⟨_, s1, by simp only [runM, h1], h2⟩
  | .seq a b, s, Q, h => by
    obtain ⟨e, s1, h1, h2⟩ := runsM_run a h
    cases e
    case normal =>
      obtain ⟨e2, s2, h3, h4⟩ := runsM_run b h2
      exact ⟨e2, s2, by simp only [runM, h1, h3], h4⟩
    all_goals exact ⟨_, s1, by simp only [runM, h1], h2⟩
  | .cond c a b, s, Q, h => by
    simp only [runsM] at h
    unfold onBool at h
    split at h
    · rename_i hc
      obtain ⟨e, s1, h1, h2⟩ := runsM_run a h
      exact ⟨e, s1, by simp only [runM, hc, cond_true, h1], h2⟩
    · rename_i hc
      obtain ⟨e, s1, h1, h2⟩ := runsM_run b h
      exact ⟨e, s1, by simp only [runM, hc, cond_false, h1], h2⟩
    · exact h.elim
  | .block id b, s, Q, h => by
    obtain ⟨e, s1, h1, h2⟩ := runsM_run b h
    cases e
    case exit i =>
      simp only [inBlock_exit] at h2
      by_cases hi : i = id
      · rw [if_pos hi] at h2; exact ⟨.normal, s1, by simp only [runM, h1, if_pos hi], h2⟩
      · rw [if_neg hi] at h2; exact ⟨.exit i, s1, by simp only [runM, h1, if_neg hi], h2⟩
    all_goals exact ⟨_, s1, by simp only [runM, h1], h2⟩
  | .loop _, s, Q, h => h.elim
  | .exit id, s, Q, h => ⟨_, _, rfl, h⟩
  | .ret, s, Q, h => ⟨_, _, rfl, h⟩
  | .scope b, s, Q, h => by
    obtain ⟨e, s1, h1, h2⟩ := runsM_run b h
    cases e
    case goto l => exact h2.elim
    all_goals exact ⟨_, s1, by simp only [runM, h1], h2⟩

theorem mc_runs (hΦ : Ctx P G Φ) {M : MCode} {s : AState} {Q : Exit → AState → Prop} (h : runsM Φ M s Q) : MC P G B N M Q s := by
  obtain ⟨e, s', h1, h2⟩ := runsM_run M h
  exact mc_run hΦ M h1 h2

/-- Behind code without loops go other pieces. -/
theorem mc_seq_runs (hΦ : Ctx P G Φ) {a b : MCode} {s : AState} {Q : Exit → AState → Prop} (h : runsM Φ a s (onNormal (fun s1 => MC P G B N b Q s1) Q)) : MC P G B N (.seq a b) Q s := by
  obtain ⟨e, s', h1, h2⟩ := runsM_run a h
  intro c hc hn
  refine mc_seq ?_ c hc hn
  refine mc_run hΦ a h1 ?_
  cases e
  case normal => exact ⟨(runM_n a h1).trans hn, h2⟩
  all_goals exact h2

theorem FnOK.runs {f : FuncId} {k : Nat} {M : MCode} {vs : List RV} (h : FnOK P G f k N M vs) (hΦ : Ctx P G Φ) {args : List T} (hk : args.length = k) {R : T → Prop}
    (hm : runsM Φ M (startM N args) (EndsM vs R)) : CallT P G f args R := h.call hk (mc_runs hΦ hm)

/-- An end, told by the result. -/
theorem ends_of {vs : List RV} {R : T → Prop} {s : AState} {ps : List PV} {r : T} {F : List Nat} (h1 : resM s vs = some ps) (h2 : toT s.H (oneOf ps) = some (r, F)) (h3 : R r) : EndsM vs R .ret s := ⟨.inr rfl, ps, r, F, h1, h2, h3⟩

def endM (vs : List RV) (R : T → Prop) (s : AState) : Prop := ifSome (resM s vs) fun ps => ifSome (toT s.H (oneOf ps)) fun q => R q.1

@[simp] theorem endsM_ret {vs : List RV} {R : T → Prop} {s : AState} : EndsM vs R .ret s = endM vs R s := by
  apply propext
  constructor
  · rintro ⟨_, ps, r, F, h1, h2, h3⟩
    unfold endM
    rw [h1, ifSome_some, h2]
    exact h3
  · intro h
    obtain ⟨ps, h1, h⟩ := ifSome_elim h
    obtain ⟨q, h2, h3⟩ := ifSome_elim h
    exact ⟨.inr rfl, ps, q.1, q.2, h1, h2, h3⟩
end
end Go.Abs
