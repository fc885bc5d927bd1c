/-
 Auxiliary facts. No statement of the program stands here.
-/
import Derived.Test.YtjkkgbdoeaihmaaGreatDoorUBQ10
import Derived.KernelRfl
namespace Go.Abs
set_option linter.unusedSimpArgs false
set_option linter.unusedVariables false
open Go
def FnOK (P : Program) (G : Globs) (f : FuncId) (k N : Nat) (M : MCode) (vs : List RV) : Prop :=
 ∃ fn, P.funcs[f]? = some fn ∧ (fn.name == "runtime.NumGoroutine") = false ∧ fn.body.bind (comp P G N) = some M ∧ fn.results.toList.mapM (compRV P) = some vs ∧ k + (fn.ntmps - k) = N
theorem FnOK.call {P : Program} {G : Globs} {f : FuncId} {k N : Nat} {M : MCode} {vs : List RV} (h : FnOK P G f k N M vs) {args : List T} (hk : args.length = k) {R : T → Prop}
  (hm : MC P G 0 N M (EndsM vs R) (startM N args)) : CallT P G f args R := by
 obtain ⟨fn, hf, hn, hb, hr, hN⟩ := h
 cases hbody : fn.body with
 | none => rw [hbody] at hb; cases hb
 | some c =>
  rw [hbody] at hb
  exact callM hf hbody hn hb hr (by rw [hk]; exact hN) hm
theorem FnOK.callP {P : Program} {G : Globs} {f : FuncId} {k N : Nat} {M : MCode} {vs : List RV} (h : FnOK P G f k N M vs) {ps : List PV} {H H' : Heap} {nx nx' : Nat} {r : PV} (hk : ps.length = k)
  (hm : MC P G nx N M (EndsP P G nx vs fun r0 H0 nx0 => r0 = r ∧ H0 = H' ∧ nx0 = nx') ⟨startsP 0 ps, H, nx, N⟩) : CallP P G f ps H nx r H' nx' := by
 obtain ⟨fn, hf, hn, hb, hr, hN⟩ := h
 cases hbody : fn.body with
 | none => rw [hbody] at hb; cases hb
 | some c =>
  rw [hbody] at hb
  exact callMP hf hbody hn hb hr (by rw [hk]; exact hN) hm
def ifSome {α : Type} (x : Option α) (K : α → Prop) : Prop :=
 match x with
 | some a => K a
 | none => False
@[simp] theorem ifSome_some {α : Type} (a : α) (K : α → Prop) : ifSome (some a) K = K a := rfl
@[simp] theorem ifSome_none {α : Type} (K : α → Prop) : ifSome (none : Option α) K = False := rfl
@[simp] theorem ifSome_map {α β : Type} (x : Option α) (f : α → β) (K : β → Prop) : ifSome (x.map f) K = ifSome x fun a => K (f a) := by cases x <;> rfl
theorem ifSome_elim {α : Type} {x : Option α} {K : α → Prop} (h : ifSome x K) : ∃ a, x = some a ∧ K a := by
 cases x with
 | none => exact h.elim
 | some a => exact ⟨a, rfl, h⟩
def onWants (x : Option Bool) (yes no : Prop) : Prop :=
 match x with
 | some true => yes
 | some false => no
 | none => False
@[simp] theorem onWants_true (yes no : Prop) : onWants (some true) yes no = yes := rfl
@[simp] theorem onWants_false (yes no : Prop) : onWants (some false) yes no = no := rfl
def AState.set (s : AState) (d : Option Nat) (q : PV × Heap × Nat) : AState :=
 match d with
 | some k => ⟨(k, q.1) :: s.env, q.2.1, q.2.2, s.n⟩
 | none => ⟨s.env, q.2.1, q.2.2, s.n⟩
theorem set_put (s : AState) (d : Option Nat) (r : PV) (H : Heap) (nx : Nat) : s.set d (r, H, nx) = ({ s with H := H, nx := nx } : AState).put d r := by cases d <;> rfl
def stepsM (Φ : Oracle) (s : AState) (m : Mini) (K : AState → Prop) : Prop :=
 onWants (m.wants s.env) (ifSome (evalK Φ s.H s.nx m.k (m.xs.map (·.ev s.env))) fun q => K (s.set m.dst q)) (K (s.set m.dst (.t (.v undef), s.H, s.nx)))
def runsL (Φ : Oracle) : List Mini → AState → (AState → Prop) → Prop
 | [], s, K => K s
 | m :: r, s, K => stepsM Φ s m fun s' => runsL Φ r s' K
def stepsD (Φ : Oracle) (s : AState) (m : Mini) (K : AState → Prop) : Prop :=
 if quietK m.k then onWants (m.wants s.env) (ifSome (evalQ Φ s.H s.nx m.k (m.xs.map (·.ev s.env))) fun v => K (s.set m.dst (v, s.H, s.nx))) (K (s.set m.dst (.t (.v undef), s.H, s.nx)))
 else stepsM Φ s m K
def runsD (Φ : Oracle) : List Mini → AState → (AState → Prop) → Prop
 | [], s, K => K s
 | m :: r, s, K => stepsD Φ s m fun s' => runsD Φ r s' K
def agains (Φ : Oracle) (pd : Pend) (H : Heap) (nx : Nat) : List Nat → Prop → Prop
 | [], K => K
 | i :: r, K => ifSome (look pd i) fun x => evalQ Φ H nx x.1 x.2.1 = some x.2.2 ∧ agains Φ pd H nx r K
def runsG (Φ : Oracle) (k : Nat) : Nat → Nat → Pend → List GI → AState → (AState → Prop) → Prop
 | _, _, _, [], s, K => K s
 | n, b, pd, .o m kp ag :: r, s, K => ifSome (valD Φ s m) fun q => agains Φ pd q.2.1 q.2.2 ag (runsG Φ k (n + 1) b (keepG kp n m s q.1 pd) r (s.set m.dst q) K)
 | n, b, pd, .g j m :: r, s, K => ifSome (evalK Φ s.H ((if j = 0 then s.nx else b) + k + j) m.k (m.xs.map (·.ev s.env))) fun q => runsG Φ k (n + 1) (if j = 0 then s.nx else b) pd r (s.set m.dst (q.1, q.2.1, (if j = 0 then s.nx else b) + 2 * k)) K
def onNormal (K : AState → Prop) (Q : Exit → AState → Prop) : Exit → AState → Prop
 | .normal, s => K s
 | e, s => Q e s
@[simp] theorem onNormal_normal (K : AState → Prop) (Q : Exit → AState → Prop) (s : AState) : onNormal K Q .normal s = K s := rfl
@[simp] theorem onNormal_ret (K : AState → Prop) (Q : Exit → AState → Prop) (s : AState) : onNormal K Q .ret s = Q .ret s := rfl
@[simp] theorem onNormal_exit (K : AState → Prop) (Q : Exit → AState → Prop) (i : Nat) (s : AState) : onNormal K Q (.exit i) s = Q (.exit i) s := rfl
@[simp] theorem inBlock_normal (i : Nat) (Q : Exit → AState → Prop) (s : AState) : InBlock i Q .normal s = Q .normal s := rfl
@[simp] theorem inBlock_ret (i : Nat) (Q : Exit → AState → Prop) (s : AState) : InBlock i Q .ret s = Q .ret s := rfl
@[simp] theorem inBlock_exit (i j : Nat) (Q : Exit → AState → Prop) (s : AState) : InBlock i Q (.exit j) s = if j = i then Q .normal s else Q (.exit j) s := rfl
@[simp] theorem noGoto_normal (Q : Exit → AState → Prop) (s : AState) : NoGoto Q .normal s = Q .normal s := rfl
@[simp] theorem noGoto_ret (Q : Exit → AState → Prop) (s : AState) : NoGoto Q .ret s = Q .ret s := rfl
@[simp] theorem noGoto_exit (i : Nat) (Q : Exit → AState → Prop) (s : AState) : NoGoto Q (.exit i) s = Q (.exit i) s := rfl
def onBool (p : PV) (yes no : Prop) : Prop :=
 match p with
 | .t (.v (.bool true)) => yes
 | .t (.v (.bool false)) => no
 | _ => False
@[simp] theorem onBool_true (yes no : Prop) : onBool (.t (.v (.bool true))) yes no = yes := rfl
@[simp] theorem onBool_false (yes no : Prop) : onBool (.t (.v (.bool false))) yes no = no := rfl
def runsM (Φ : Oracle) : MCode → AState → (Exit → AState → Prop) → Prop
 | .skip, s, Q => Q .normal s
 | .ops l, s, Q => runsL Φ l s (Q .normal)
 | .draw l, s, Q => runsD Φ l s (Q .normal)
 | .drawG k l, s, Q => runsG Φ k 0 0 [] l s (Q .normal)
 | .seq a b, s, Q => runsM Φ a s (onNormal (fun s1 => runsM Φ b s1 Q) Q)
 | .cond c a b, s, Q => onBool (c.ev s.env) (runsM Φ a s Q) (runsM Φ b s Q)
 | .block id b, s, Q => runsM Φ b s (InBlock id Q)
 | .loop _, _, _ => False
 | .exit id, s, Q => Q (.exit id) s
 | .ret, s, Q => Q .ret s
 | .scope b, s, Q => runsM Φ b s (NoGoto Q)
section
variable {P : Program} {G : Globs} {B N : Nat} {Φ : Oracle}
theorem stepsM_run {s : AState} {m : Mini} {K : AState → Prop} (h : stepsM Φ s m K) : ∃ s', stepM Φ s m = some s' ∧ K s' := by
 unfold stepsM at h
 unfold stepM
 cases hw : m.wants s.env with
 | none => rw [hw] at h; exact h.elim
 | some b =>
  rw [hw] at h
  cases b with
  | true =>
   obtain ⟨⟨r, H', nx'⟩, hq, hk⟩ := ifSome_elim h
   exact ⟨_, by simp only [hq]; rfl, by rw [set_put] at hk; exact hk⟩
  | false => exact ⟨_, rfl, by simp only [onWants_false, set_put] at h; exact h⟩
theorem runsL_run : ∀ {l : List Mini} {s : AState} {K : AState → Prop}, runsL Φ l s K → ∃ s', runL Φ l s = some s' ∧ K s'
 | [], s, K, h => ⟨s, rfl, h⟩
 | m :: r, s, K, h => by
  obtain ⟨s1, h1, h2⟩ := stepsM_run h
  obtain ⟨s2, h3, h4⟩ := runsL_run h2
  exact ⟨s2, by simp only [runL, h1, h3], h4⟩
theorem stepsD_run {s : AState} {m : Mini} {K : AState → Prop} (h : stepsD Φ s m K) : ∃ s', stepD Φ s m = some s' ∧ K s' := by
 unfold stepsD at h
 unfold stepD
 split at h
 ·rename_i hq
  rw [if_pos hq]
  unfold valQ
  cases hw : m.wants s.env with
  | none => rw [hw] at h; exact h.elim
  | some b =>
   rw [hw] at h
   cases b with
   | true =>
    obtain ⟨v, hv, hk⟩ := ifSome_elim h
    exact ⟨_, by simp only [hv]; rfl, by rw [set_put] at hk; exact hk⟩
   | false => exact ⟨_, rfl, by simp only [onWants_false, set_put] at h; exact h⟩
 ·rename_i hq
  rw [if_neg hq]
  exact stepsM_run h
theorem runsD_run : ∀ {l : List Mini} {s : AState} {K : AState → Prop}, runsD Φ l s K → ∃ s', runD Φ l s = some s' ∧ K s'
 | [], s, K, h => ⟨s, rfl, h⟩
 | m :: r, s, K, h => by
  obtain ⟨s1, h1, h2⟩ := stepsD_run h
  obtain ⟨s2, h3, h4⟩ := runsD_run h2
  exact ⟨s2, by simp only [runD, h1, h3], h4⟩
theorem agains_run {pd : Pend} {H : Heap} {nx : Nat} {K : Prop} : ∀ {ks : List Nat}, agains Φ pd H nx ks K → agnP Φ pd H nx ks ∧ K
 | [], h => ⟨fun i hi => by simp at hi, h⟩
 | i :: r, h => by
  obtain ⟨x, hx, he, hr⟩ := ifSome_elim h
  obtain ⟨h1, h2⟩ := agains_run hr
  refine ⟨fun j hj => ?_, h2⟩
  rcases List.mem_cons.1 hj with rfl | hj
  ·exact ⟨x, hx, he⟩
  ·exact h1 j hj
theorem runsG_run {k : Nat} : ∀ (l : List GI) {n b : Nat} {pd : Pend} {s : AState} {K : AState → Prop}, runsG Φ k n b pd l s K → ∃ s', runG Φ k n b pd l s = some s' ∧ K s'
 | [], n, b, pd, s, K, h => ⟨s, rfl, h⟩
 | .o m kp ag :: r, n, b, pd, s, K, h => by
  obtain ⟨⟨v, H', nx'⟩, hv, hk⟩ := ifSome_elim h
  obtain ⟨h1, h2⟩ := agains_run hk
  rw [set_put] at h2
  obtain ⟨s', h3, h4⟩ := runsG_run r h2
  exact ⟨s', by simp only [runG, hv, if_pos h1, h3], h4⟩
 | .g j m :: r, n, b, pd, s, K, h => by
  obtain ⟨⟨v, H', nx'⟩, hv, hk⟩ := ifSome_elim h
  rw [set_put] at hk
  obtain ⟨s', h3, h4⟩ := runsG_run r hk
  exact ⟨s', by simp only [runG, hv, h3], h4⟩
theorem runsM_run : ∀ (M : MCode) {s : AState} {Q : Exit → AState → Prop}, runsM Φ M s Q → ∃ e s', runM Φ M s = some (e, s') ∧ Q e s'
 | .skip, s, Q, h => ⟨_, _, rfl, h⟩
 | .ops l, s, Q, h => by
  obtain ⟨s1, h1, h2⟩ := runsL_run h
  exact ⟨_, s1, by simp only [runM, h1], h2⟩
 | .draw l, s, Q, h => by
  obtain ⟨s1, h1, h2⟩ := runsD_run h
  exact ⟨_, s1, by simp only [runM, h1], h2⟩
 | .drawG k l, s, Q, h => by
  obtain ⟨s1, h1, h2⟩ := runsG_run l h
  exact ⟨_, s1, by simp only [runM, h1], h2⟩
 | .seq a b, s, Q, h => by
  obtain ⟨e, s1, h1, h2⟩ := runsM_run a h
  cases e
  case normal =>
   obtain ⟨e2, s2, h3, h4⟩ := runsM_run b h2
   exact ⟨e2, s2, by simp only [runM, h1, h3], h4⟩
  all_goals exact ⟨_, s1, by simp only [runM, h1], h2⟩
 | .cond c a b, s, Q, h => by
  simp only [runsM] at h
  unfold onBool at h
  split at h
  ·rename_i hc
   obtain ⟨e, s1, h1, h2⟩ := runsM_run a h
   exact ⟨e, s1, by simp only [runM, hc, cond_true, h1], h2⟩
  ·rename_i hc
   obtain ⟨e, s1, h1, h2⟩ := runsM_run b h
   exact ⟨e, s1, by simp only [runM, hc, cond_false, h1], h2⟩
  ·exact h.elim
 | .block id b, s, Q, h => by
  obtain ⟨e, s1, h1, h2⟩ := runsM_run b h
  cases e
  case exit i =>
   simp only [inBlock_exit] at h2
   by_cases hi : i = id
   ·rw [if_pos hi] at h2; exact ⟨.normal, s1, by simp only [runM, h1, if_pos hi], h2⟩
   ·rw [if_neg hi] at h2; exact ⟨.exit i, s1, by simp only [runM, h1, if_neg hi], h2⟩
  all_goals exact ⟨_, s1, by simp only [runM, h1], h2⟩
 | .loop _, s, Q, h => h.elim
 | .exit id, s, Q, h => ⟨_, _, rfl, h⟩
 | .ret, s, Q, h => ⟨_, _, rfl, h⟩
 | .scope b, s, Q, h => by
  obtain ⟨e, s1, h1, h2⟩ := runsM_run b h
  cases e
  case goto l => exact h2.elim
  all_goals exact ⟨_, s1, by simp only [runM, h1], h2⟩
theorem mc_runs (hΦ : Ctx P G Φ) {M : MCode} {s : AState} {Q : Exit → AState → Prop} (h : runsM Φ M s Q) : MC P G B N M Q s := by
 obtain ⟨e, s', h1, h2⟩ := runsM_run M h
 exact mc_run hΦ M h1 h2
theorem mc_seq_runs (hΦ : Ctx P G Φ) {a b : MCode} {s : AState} {Q : Exit → AState → Prop} (h : runsM Φ a s (onNormal (fun s1 => MC P G B N b Q s1) Q)) : MC P G B N (.seq a b) Q s := by
 obtain ⟨e, s', h1, h2⟩ := runsM_run a h
 intro c hc hn
 refine mc_seq ?_ c hc hn
 refine mc_run hΦ a h1 ?_
 cases e
 case normal => exact ⟨(runM_n a h1).trans hn, h2⟩
 all_goals exact h2
theorem FnOK.runs {f : FuncId} {k : Nat} {M : MCode} {vs : List RV} (h : FnOK P G f k N M vs) (hΦ : Ctx P G Φ) {args : List T} (hk : args.length = k) {R : T → Prop}
  (hm : runsM Φ M (startM N args) (EndsM vs R)) : CallT P G f args R := h.call hk (mc_runs hΦ hm)
theorem ends_of {vs : List RV} {R : T → Prop} {s : AState} {ps : List PV} {r : T} {F : List Nat} (h1 : resM s vs = some ps) (h2 : toT s.H (oneOf ps) = some (r, F)) (h3 : R r) : EndsM vs R .ret s := ⟨.inr rfl, ps, r, F, h1, h2, h3⟩
def endM (vs : List RV) (R : T → Prop) (s : AState) : Prop := ifSome (resM s vs) fun ps => ifSome (toT s.H (oneOf ps)) fun q => R q.1
@[simp] theorem endsM_ret {vs : List RV} {R : T → Prop} {s : AState} : EndsM vs R .ret s = endM vs R s := by
 apply propext
 constructor
 ·rintro ⟨_, ps, r, F, h1, h2, h3⟩
  unfold endM
  rw [h1, ifSome_some, h2]
  exact h3
 ·intro h
  obtain ⟨ps, h1, h⟩ := ifSome_elim h
  obtain ⟨q, h2, h3⟩ := ifSome_elim h
  exact ⟨.inr rfl, ps, q.1, q.2, h1, h2, h3⟩
end
section
variable {Φ : Oracle} {H : Heap} {nx : Nat}
@[simp] theorem evalK_mv  (x : PV) : evalK Φ H nx .mv [x] = some (x, H, nx) := rfl
@[simp] theorem quietK_mv  : quietK .mv = true := rfl
@[simp] theorem evalQ_mv  (ps : List PV) : evalQ Φ H nx .mv ps = (evalK Φ H nx .mv ps).map (·.1) := rfl
@[simp] theorem evalK_un (op : UnOp) (a : Value) : evalK Φ H nx (.un op) [.t (.v a)] = (unV op a).map fun v => (.t (.v v), H, nx) := rfl
@[simp] theorem quietK_un (op : UnOp) : quietK (.un op) = true := rfl
@[simp] theorem evalQ_un (op : UnOp) (ps : List PV) : evalQ Φ H nx (.un op) ps = (evalK Φ H nx (.un op) ps).map (·.1) := rfl
@[simp] theorem evalK_conv (k : Option IntKind) (x : PV) : evalK Φ H nx (.conv k) [x] = (convM k x).map fun r => (r, H, nx) := rfl
@[simp] theorem quietK_conv (k : Option IntKind) : quietK (.conv k) = true := rfl
@[simp] theorem evalQ_conv (k : Option IntKind) (ps : List PV) : evalQ Φ H nx (.conv k) ps = (evalK Φ H nx (.conv k) ps).map (·.1) := rfl
@[simp] theorem evalK_load (agg : Bool) (n : Nat) (x : PV) : evalK Φ H nx (.load agg n) [x] = (loadM agg n H x).map fun r => (r, H, nx) := rfl
@[simp] theorem quietK_load (agg : Bool) (n : Nat) : quietK (.load agg n) = true := rfl
@[simp] theorem evalQ_load (agg : Bool) (n : Nat) (ps : List PV) : evalQ Φ H nx (.load agg n) ps = (evalK Φ H nx (.load agg n) ps).map (·.1) := rfl
@[simp] theorem evalK_faddr (off : Nat) (x : PV) : evalK Φ H nx (.faddr off) [x] = (faddrM off x).map fun r => (r, H, nx) := rfl
@[simp] theorem quietK_faddr (off : Nat) : quietK (.faddr off) = true := rfl
@[simp] theorem evalQ_faddr (off : Nat) (ps : List PV) : evalQ Φ H nx (.faddr off) ps = (evalK Φ H nx (.faddr off) ps).map (·.1) := rfl
@[simp] theorem evalK_field (off : Nat) (agg : Bool) (n : Nat) (x : PV) : evalK Φ H nx (.field off agg n) [x] = (fieldM off agg n x).map fun r => (r, H, nx) := rfl
@[simp] theorem quietK_field (off : Nat) (agg : Bool) (n : Nat) : quietK (.field off agg n) = true := rfl
@[simp] theorem evalQ_field (off : Nat) (agg : Bool) (n : Nat) (ps : List PV) : evalQ Φ H nx (.field off agg n) ps = (evalK Φ H nx (.field off agg n) ps).map (·.1) := rfl
@[simp] theorem evalK_iaddr (z : Nat) (x : PV) (i : PV) : evalK Φ H nx (.iaddr z) [x, i] = (iaddrM z x i).map fun r => (r, H, nx) := rfl
@[simp] theorem quietK_iaddr (z : Nat) : quietK (.iaddr z) = true := rfl
@[simp] theorem evalQ_iaddr (z : Nat) (ps : List PV) : evalQ Φ H nx (.iaddr z) ps = (evalK Φ H nx (.iaddr z) ps).map (·.1) := rfl
@[simp] theorem evalK_aaddr (n z : Nat) (x : PV) (i : PV) : evalK Φ H nx (.aaddr n z) [x, i] = (aaddrM n z x i).map fun r => (r, H, nx) := rfl
@[simp] theorem quietK_aaddr (n z : Nat) : quietK (.aaddr n z) = true := rfl
@[simp] theorem evalQ_aaddr (n z : Nat) (ps : List PV) : evalQ Φ H nx (.aaddr n z) ps = (evalK Φ H nx (.aaddr n z) ps).map (·.1) := rfl
@[simp] theorem evalK_index  (x : PV) (i : PV) : evalK Φ H nx .index [x, i] = (indexM x i).map fun r => (r, H, nx) := rfl
@[simp] theorem quietK_index  : quietK .index = true := rfl
@[simp] theorem evalQ_index  (ps : List PV) : evalQ Φ H nx .index ps = (evalK Φ H nx .index ps).map (·.1) := rfl
@[simp] theorem evalK_slstr00  (x : PV) : evalK Φ H nx (.slstr false false) [x] = (slstrM x none none).map fun r => (r, H, nx) := rfl
@[simp] theorem quietK_slstr00  : quietK (.slstr false false) = true := rfl
@[simp] theorem evalQ_slstr00  (ps : List PV) : evalQ Φ H nx (.slstr false false) ps = (evalK Φ H nx (.slstr false false) ps).map (·.1) := rfl
@[simp] theorem evalK_slstr10  (x : PV) (i : PV) : evalK Φ H nx (.slstr true false) [x, i] = (slstrM x (some i) none).map fun r => (r, H, nx) := rfl
@[simp] theorem quietK_slstr10  : quietK (.slstr true false) = true := rfl
@[simp] theorem evalQ_slstr10  (ps : List PV) : evalQ Φ H nx (.slstr true false) ps = (evalK Φ H nx (.slstr true false) ps).map (·.1) := rfl
@[simp] theorem evalK_slstr01  (x : PV) (i : PV) : evalK Φ H nx (.slstr false true) [x, i] = (slstrM x none (some i)).map fun r => (r, H, nx) := rfl
@[simp] theorem quietK_slstr01  : quietK (.slstr false true) = true := rfl
@[simp] theorem evalQ_slstr01  (ps : List PV) : evalQ Φ H nx (.slstr false true) ps = (evalK Φ H nx (.slstr false true) ps).map (·.1) := rfl
@[simp] theorem evalK_slstr11  (x : PV) (i : PV) (j : PV) : evalK Φ H nx (.slstr true true) [x, i, j] = (slstrM x (some i) (some j)).map fun r => (r, H, nx) := rfl
@[simp] theorem quietK_slstr11  : quietK (.slstr true true) = true := rfl
@[simp] theorem evalQ_slstr11  (ps : List PV) : evalQ Φ H nx (.slstr true true) ps = (evalK Φ H nx (.slstr true true) ps).map (·.1) := rfl
@[simp] theorem evalK_slice00 (z : Nat) (x : PV) : evalK Φ H nx (.slice z false false) [x] = (sliceM z x none none).map fun r => (r, H, nx) := rfl
@[simp] theorem quietK_slice00 (z : Nat) : quietK (.slice z false false) = true := rfl
@[simp] theorem evalQ_slice00 (z : Nat) (ps : List PV) : evalQ Φ H nx (.slice z false false) ps = (evalK Φ H nx (.slice z false false) ps).map (·.1) := rfl
@[simp] theorem evalK_slice10 (z : Nat) (x : PV) (i : PV) : evalK Φ H nx (.slice z true false) [x, i] = (sliceM z x (some i) none).map fun r => (r, H, nx) := rfl
@[simp] theorem quietK_slice10 (z : Nat) : quietK (.slice z true false) = true := rfl
@[simp] theorem evalQ_slice10 (z : Nat) (ps : List PV) : evalQ Φ H nx (.slice z true false) ps = (evalK Φ H nx (.slice z true false) ps).map (·.1) := rfl
@[simp] theorem evalK_slice01 (z : Nat) (x : PV) (i : PV) : evalK Φ H nx (.slice z false true) [x, i] = (sliceM z x none (some i)).map fun r => (r, H, nx) := rfl
@[simp] theorem quietK_slice01 (z : Nat) : quietK (.slice z false true) = true := rfl
@[simp] theorem evalQ_slice01 (z : Nat) (ps : List PV) : evalQ Φ H nx (.slice z false true) ps = (evalK Φ H nx (.slice z false true) ps).map (·.1) := rfl
@[simp] theorem evalK_slice11 (z : Nat) (x : PV) (i : PV) (j : PV) : evalK Φ H nx (.slice z true true) [x, i, j] = (sliceM z x (some i) (some j)).map fun r => (r, H, nx) := rfl
@[simp] theorem quietK_slice11 (z : Nat) : quietK (.slice z true true) = true := rfl
@[simp] theorem evalQ_slice11 (z : Nat) (ps : List PV) : evalQ Φ H nx (.slice z true true) ps = (evalK Φ H nx (.slice z true true) ps).map (·.1) := rfl
@[simp] theorem evalK_ext (n : Nat) (x : PV) : evalK Φ H nx (.ext n) [x] = (extractV x n).map fun r => (r, H, nx) := rfl
@[simp] theorem quietK_ext (n : Nat) : quietK (.ext n) = true := rfl
@[simp] theorem evalQ_ext (n : Nat) (ps : List PV) : evalQ Φ H nx (.ext n) ps = (evalK Φ H nx (.ext n) ps).map (·.1) := rfl
@[simp] theorem evalK_chk  (x : PV) : evalK Φ H nx .chk [x] = (chkM x).map fun r => (r, H, nx) := rfl
@[simp] theorem quietK_chk  : quietK .chk = true := rfl
@[simp] theorem evalQ_chk  (ps : List PV) : evalQ Φ H nx .chk ps = (evalK Φ H nx .chk ps).map (·.1) := rfl
@[simp] theorem evalK_lenstr  (x : PV) : evalK Φ H nx .lenstr [x] = (lenstrM x).map fun r => (r, H, nx) := rfl
@[simp] theorem quietK_lenstr  : quietK .lenstr = true := rfl
@[simp] theorem evalQ_lenstr  (ps : List PV) : evalQ Φ H nx .lenstr ps = (evalK Φ H nx .lenstr ps).map (·.1) := rfl
@[simp] theorem evalK_lensl  (x : PV) : evalK Φ H nx .lensl [x] = (lenslM x).map fun r => (r, H, nx) := rfl
@[simp] theorem quietK_lensl  : quietK .lensl = true := rfl
@[simp] theorem evalQ_lensl  (ps : List PV) : evalQ Φ H nx .lensl ps = (evalK Φ H nx .lensl ps).map (·.1) := rfl
@[simp] theorem evalK_min  (x : PV) (i : PV) : evalK Φ H nx .min [x, i] = (minV x i).map fun r => (r, H, nx) := rfl
@[simp] theorem quietK_min  : quietK .min = true := rfl
@[simp] theorem evalQ_min  (ps : List PV) : evalQ Φ H nx .min ps = (evalK Φ H nx .min ps).map (·.1) := rfl
@[simp] theorem evalK_max  (x : PV) (i : PV) : evalK Φ H nx .max [x, i] = (maxV x i).map fun r => (r, H, nx) := rfl
@[simp] theorem quietK_max  : quietK .max = true := rfl
@[simp] theorem evalQ_max  (ps : List PV) : evalQ Φ H nx .max ps = (evalK Φ H nx .max ps).map (·.1) := rfl
@[simp] theorem evalK_store (n : Nat) (x : PV) (i : PV) : evalK Φ H nx (.store n) [x, i] = (storeM n H x i).map fun H' => (.t (.v undef), H', nx) := rfl
@[simp] theorem quietK_store (n : Nat) : quietK (.store n) = false := rfl
@[simp] theorem evalK_make (e n b : Nat) (zc : List Value) (x : PV) (i : PV) : evalK Φ H nx (.make e n b zc) [x, i] = (makeM e n b zc x i nx).map fun q => (q.1, (nx, q.2) :: H, nx + 1) := rfl
@[simp] theorem quietK_make (e n b : Nat) (zc : List Value) : quietK (.make e n b zc) = false := rfl
@[simp] theorem evalK_bslice (e n : Nat) (zc : List Value) (len : Nat) (idx : List Nat) (ps : List PV) : evalK Φ H nx (.bslice e n zc len idx) ps = (bsliceM e n zc len (idx.zip ps) nx).map fun q => (q.1, (nx, q.2) :: H, nx + 1) := rfl
@[simp] theorem quietK_bslice (e n : Nat) (zc : List Value) (len : Nat) (idx : List Nat)  : quietK (.bslice e n zc len idx) = false := rfl
@[simp] theorem evalK_build (places : List (Nat × Nat)) (zc : List Value) (idx : List Nat) (ps : List PV) : evalK Φ H nx (.build places zc idx) ps = (fillP (fun k => places[k]?) (zc.map fun x => .t (.v x)) (idx.zip ps)).map fun cs => (agOf cs, H, nx) := rfl
@[simp] theorem quietK_build (places : List (Nat × Nat)) (zc : List Value) (idx : List Nat)  : quietK (.build places zc idx) = true := rfl
@[simp] theorem evalQ_build (places : List (Nat × Nat)) (zc : List Value) (idx : List Nat)  (ps : List PV) : evalQ Φ H nx (.build places zc idx) ps = (evalK Φ H nx (.build places zc idx) ps).map (·.1) := rfl
@[simp] theorem evalK_barr (n : Nat) (zc : List Value) (idx : List Nat) (ps : List PV) : evalK Φ H nx (.barr n zc idx) ps = (fillP (fun k => some (k * n, n)) (zc.map fun x => .t (.v x)) (idx.zip ps)).map fun cs => (agOf cs, H, nx) := rfl
@[simp] theorem quietK_barr (n : Nat) (zc : List Value) (idx : List Nat)  : quietK (.barr n zc idx) = true := rfl
@[simp] theorem evalQ_barr (n : Nat) (zc : List Value) (idx : List Nat)  (ps : List PV) : evalQ Φ H nx (.barr n zc idx) ps = (evalK Φ H nx (.barr n zc idx) ps).map (·.1) := rfl
@[simp] theorem evalK_box (t : Nat) (x : PV) : evalK Φ H nx (.box t) [x] = (cellsP x).map fun ps => (.ptr nx 0, (nx, .cells t ps) :: H, nx + 1) := rfl
@[simp] theorem quietK_box (t : Nat) : quietK (.box t) = false := rfl
@[simp] theorem evalK_alloc (t : Nat) (zc : List Value)  : evalK Φ H nx (.alloc t zc) [] = some (.ptr nx 0, (nx, .cells t (zc.map fun x => .t (.v x))) :: H, nx + 1) := rfl
@[simp] theorem quietK_alloc (t : Nat) (zc : List Value) : quietK (.alloc t zc) = false := rfl
@[simp] theorem evalK_app (e z b : Nat) (x : PV) (i : PV) : evalK Φ H nx (.app e z b) [x, i] = appM e z b H nx x i := rfl
@[simp] theorem quietK_app (e z b : Nat) : quietK (.app e z b) = false := rfl
@[simp] theorem quietK_bin (isB : Bool) (op : BinOp) (nk : Option NK) : quietK (.bin isB op nk) = true := rfl
@[simp] theorem evalQ_bin (isB : Bool) (op : BinOp) (nk : Option NK) (ps : List PV) : evalQ Φ H nx (.bin isB op nk) ps = (evalK Φ H nx (.bin isB op nk) ps).map (·.1) := rfl
@[simp] theorem quietK_pick  : quietK .pick = true := rfl
@[simp] theorem evalQ_pick  (ps : List PV) : evalQ Φ H nx .pick ps = (evalK Φ H nx .pick ps).map (·.1) := rfl
@[simp] theorem quietK_call (f : Nat) : quietK (.call f) = true := rfl
@[simp] theorem evalK_pick (t : Bool) (a b : PV) : evalK Φ H nx .pick [.t (.v (.bool t)), a, b] = some (bif t then a else b, H, nx) := rfl
@[simp] theorem evalK_add (isB : Bool) (nk : Option NK) (k : IntKind) (a b : Int) : evalK Φ H nx (.bin isB .add nk) [.t (.v (.int k a)), .t (.v (.int k b))] = some (.t (.v (.int k (k.wrap (a + b)))), H, nx) := by simp [evalK, binM]
@[simp] theorem evalK_sub (isB : Bool) (nk : Option NK) (k : IntKind) (a b : Int) : evalK Φ H nx (.bin isB .sub nk) [.t (.v (.int k a)), .t (.v (.int k b))] = some (.t (.v (.int k (k.wrap (a - b)))), H, nx) := by simp [evalK, binM]
@[simp] theorem evalK_mul (isB : Bool) (nk : Option NK) (k : IntKind) (a b : Int) : evalK Φ H nx (.bin isB .mul nk) [.t (.v (.int k a)), .t (.v (.int k b))] = some (.t (.v (.int k (k.wrap (a * b)))), H, nx) := by simp [evalK, binM]
@[simp] theorem evalK_and (isB : Bool) (nk : Option NK) (k : IntKind) (a b : Int) : evalK Φ H nx (.bin isB .and nk) [.t (.v (.int k a)), .t (.v (.int k b))] = some (.t (.v (.int k (k.wrap (BitVec.ofInt k.bits a &&& BitVec.ofInt k.bits b).toNat))), H, nx) := by simp [evalK, binM]
@[simp] theorem evalK_or (isB : Bool) (nk : Option NK) (k : IntKind) (a b : Int) : evalK Φ H nx (.bin isB .or nk) [.t (.v (.int k a)), .t (.v (.int k b))] = some (.t (.v (.int k (k.wrap (BitVec.ofInt k.bits a ||| BitVec.ofInt k.bits b).toNat))), H, nx) := by simp [evalK, binM]
@[simp] theorem evalK_xor (isB : Bool) (nk : Option NK) (k : IntKind) (a b : Int) : evalK Φ H nx (.bin isB .xor nk) [.t (.v (.int k a)), .t (.v (.int k b))] = some (.t (.v (.int k (k.wrap (BitVec.ofInt k.bits a ^^^ BitVec.ofInt k.bits b).toNat))), H, nx) := by simp [evalK, binM]
@[simp] theorem evalK_andNot (isB : Bool) (nk : Option NK) (k : IntKind) (a b : Int) : evalK Φ H nx (.bin isB .andNot nk) [.t (.v (.int k a)), .t (.v (.int k b))] = some (.t (.v (.int k (k.wrap (BitVec.ofInt k.bits a &&& ~~~ (BitVec.ofInt k.bits b)).toNat))), H, nx) := by simp [evalK, binM]
@[simp] theorem evalK_eql (isB : Bool) (nk : Option NK) (k : IntKind) (a b : Int) : evalK Φ H nx (.bin isB .eql nk) [.t (.v (.int k a)), .t (.v (.int k b))] = some (.t (.v (.bool (a == b))), H, nx) := by simp [evalK, binM]
@[simp] theorem evalK_neq (isB : Bool) (nk : Option NK) (k : IntKind) (a b : Int) : evalK Φ H nx (.bin isB .neq nk) [.t (.v (.int k a)), .t (.v (.int k b))] = some (.t (.v (.bool (a != b))), H, nx) := by simp [evalK, binM]
@[simp] theorem evalK_lss (isB : Bool) (nk : Option NK) (k : IntKind) (a b : Int) : evalK Φ H nx (.bin isB .lss nk) [.t (.v (.int k a)), .t (.v (.int k b))] = some (.t (.v (.bool (decide (a < b)))), H, nx) := by simp [evalK, binM]
@[simp] theorem evalK_leq (isB : Bool) (nk : Option NK) (k : IntKind) (a b : Int) : evalK Φ H nx (.bin isB .leq nk) [.t (.v (.int k a)), .t (.v (.int k b))] = some (.t (.v (.bool (decide (a ≤ b)))), H, nx) := by simp [evalK, binM]
@[simp] theorem evalK_gtr (isB : Bool) (nk : Option NK) (k : IntKind) (a b : Int) : evalK Φ H nx (.bin isB .gtr nk) [.t (.v (.int k a)), .t (.v (.int k b))] = some (.t (.v (.bool (decide (b < a)))), H, nx) := by simp [evalK, binM]
@[simp] theorem evalK_geq (isB : Bool) (nk : Option NK) (k : IntKind) (a b : Int) : evalK Φ H nx (.bin isB .geq nk) [.t (.v (.int k a)), .t (.v (.int k b))] = some (.t (.v (.bool (decide (b ≤ a)))), H, nx) := by simp [evalK, binM]
@[simp] theorem evalK_quo (isB : Bool) (nk : Option NK) (k : IntKind) (a b : Int) (h : ¬ b = 0) : evalK Φ H nx (.bin isB .quo nk) [.t (.v (.int k a)), .t (.v (.int k b))] = some (.t (.v (.int k (k.wrap (a.tdiv b)))), H, nx) := by simp [evalK, binM, h]
@[simp] theorem evalK_rem (isB : Bool) (nk : Option NK) (k : IntKind) (a b : Int) (h : ¬ b = 0) : evalK Φ H nx (.bin isB .rem nk) [.t (.v (.int k a)), .t (.v (.int k b))] = some (.t (.v (.int k (a.tmod b))), H, nx) := by simp [evalK, binM, h]
@[simp] theorem evalK_shl (isB : Bool) (nk : Option NK) (k k' : IntKind) (a b : Int) (h : ¬ b < 0) : evalK Φ H nx (.bin isB .shl nk) [.t (.v (.int k a)), .t (.v (.int k' b))] = some (.t (.v (.int k (k.wrap (a * 2 ^ (min b.toNat k.bits))))), H, nx) := by simp [evalK, binM, h]
@[simp] theorem evalK_shr (isB : Bool) (nk : Option NK) (k k' : IntKind) (a b : Int) (h : ¬ b < 0) : evalK Φ H nx (.bin isB .shr nk) [.t (.v (.int k a)), .t (.v (.int k' b))] = some (.t (.v (.int k (a.fdiv (2 ^ (min b.toNat k.bits))))), H, nx) := by simp [evalK, binM, h]
@[simp] theorem evalK_seql (isB : Bool) (nk : Option NK) (a b : ByteArray) : evalK Φ H nx (.bin isB .eql nk) [.t (.v (.string a)), .t (.v (.string b))] = some (.t (.v (.bool (a.toList == b.toList))), H, nx) := rfl
@[simp] theorem evalK_sneq (isB : Bool) (nk : Option NK) (a b : ByteArray) : evalK Φ H nx (.bin isB .neq nk) [.t (.v (.string a)), .t (.v (.string b))] = some (.t (.v (.bool (!(a.toList == b.toList)))), H, nx) := rfl
@[simp] theorem evalK_beql (nk : Option NK) (a b : Bool) : evalK Φ H nx (.bin true .eql nk) [.t (.v (.bool a)), .t (.v (.bool b))] = some (.t (.v (.bool (a == b))), H, nx) := rfl
@[simp] theorem evalK_bneq (nk : Option NK) (a b : Bool) : evalK Φ H nx (.bin true .neq nk) [.t (.v (.bool a)), .t (.v (.bool b))] = some (.t (.v (.bool (!(a == b)))), H, nx) := rfl
@[simp] theorem evalK_call (f : Nat) (ps : List PV) : evalK Φ H nx (.call f) ps = (toTs H ps).bind fun q => (Φ f q.1).map fun r => (.t r, if q.2.isEmpty then H else if plainT r then H else remAll H q.2, nx) := by
 simp only [evalK]
 cases toTs H ps with
 | none => rfl
 | some q => obtain ⟨a, b⟩ := q; simp only [Option.bind_some]; cases Φ f a <;> rfl
@[simp] theorem evalQ_call (f : Nat) (ps : List PV) : evalQ Φ H nx (.call f) ps = (toTs H ps).bind fun q => (Φ f q.1).bind fun r => if q.2.isEmpty || plainT r then some (.t r) else none := by
 simp only [evalQ, quietK, if_true]
 cases toTs H ps with
 | none => rfl
 | some q => obtain ⟨a, b⟩ := q; simp only [Option.bind_some]; cases Φ f a <;> rfl
@[simp] theorem evalK_tslice (e n : Nat) (zc : List Value) (len : Nat) (idx : List Nat) (ps : List PV) : evalK Φ H nx (.tslice e n zc len idx) ps = (tsliceM e n zc len (idx.zip ps)).map fun r => (r, H, nx) := rfl
@[simp] theorem quietK_tslice (e n : Nat) (zc : List Value) (len : Nat) (idx : List Nat) : quietK (.tslice e n zc len idx) = true := rfl
@[simp] theorem evalQ_tslice (e n : Nat) (zc : List Value) (len : Nat) (idx : List Nat) (ps : List PV) : evalQ Φ H nx (.tslice e n zc len idx) ps = (evalK Φ H nx (.tslice e n zc len idx) ps).map (·.1) := rfl
@[simp] theorem evalK_hcall (f : Nat) (ps : List PV) : evalK Φ H nx (.hcall f) ps = Φ.h f ps H nx := rfl
@[simp] theorem quietK_hcall (f : Nat) : quietK (.hcall f) = false := rfl
@[simp] theorem evalK_callv (f : Nat) (ps : List PV) : evalK Φ H nx .callv (.t (.v (.func (.func f) #[] #[])) :: ps) = Φ.h f ps H nx := rfl
@[simp] theorem evalK_callf (f : Nat) (first cap ps : List PV) : evalK Φ H nx .callv (.fn (.func f) first cap :: ps) = Φ.h f (first ++ ps ++ cap) H nx := rfl
@[simp] theorem quietK_callv : quietK .callv = false := rfl
@[simp] theorem evalK_ex (e : EK) (ps : List PV) : evalK Φ H nx (.ex e) ps = (exM e ps).map fun r => (r, H, nx) := rfl
@[simp] theorem quietK_ex (e : EK) : quietK (.ex e) = true := rfl
@[simp] theorem evalQ_ex (e : EK) (ps : List PV) : evalQ Φ H nx (.ex e) ps = (evalK Φ H nx (.ex e) ps).map (·.1) := rfl
@[simp] theorem evalK_hx (h : HK) (ps : List PV) : evalK Φ H nx (.hx h) ps = hxM h H nx ps := rfl
@[simp] theorem quietK_hx (h : HK) : quietK (.hx h) = false := rfl
@[simp] theorem exM_eqs (neg : Bool) (ks : List CK) (xs ys : List T) : exM (.eqs neg ks) [.t (.ag xs), .t (.ag ys)] = (eqCells ks xs ys).map fun r => .t (.v (.bool (if neg then !r else r))) := rfl
@[simp] theorem hxM_range (s : ByteArray) : hxM .range H nx [.t (.v (.string s))] = some (.ptr nx 0, (nx, .iter s 0) :: H, nx + 1) := rfl
@[simp] theorem ifSome_bind {α β : Type} (x : Option α) (f : α → Option β) (K : β → Prop) : ifSome (x.bind f) K = ifSome x fun a => ifSome (f a) K := by cases x <;> rfl
end
@[simp] theorem plainT_v (x : Value) : plainT (.v x) = true := rfl
@[simp] theorem plainT_sl (n : Nat) (cs : List T) : plainT (.sl n cs) = false := rfl
@[simp] theorem plainT_pt (cs : List T) : plainT (.pt cs) = false := rfl
@[simp] theorem look_nil {α : Type} (k : Nat) : look ([] : List (Nat × α)) k = none := rfl
@[simp] theorem look_cons {α : Type} (k j : Nat) (x : α) (r : List (Nat × α)) : look ((k, x) :: r) j = if k = j then some x else look r j := rfl
@[simp] theorem allT_map_t (ts : List T) : allT (ts.map PV.t) = some ts := by
 induction ts with
 | nil => rfl
 | cons x r ih => simp [ih]
section
variable {Φ : Oracle} {env : List (Nat × PV)} {H : Heap} {nx n : Nat} {K : AState → Prop} {Q : Exit → AState → Prop} {d : Option Nat} {k : MK} {xs : List Opd} {r : List Mini}
@[simp] theorem set_some (j : Nat) (p : PV) (H' : Heap) (nx' : Nat) : AState.set ⟨env, H, nx, n⟩ (some j) (p, H', nx') = ⟨(j, p) :: env, H', nx', n⟩ := rfl
@[simp] theorem set_none (p : PV) (H' : Heap) (nx' : Nat) : AState.set ⟨env, H, nx, n⟩ none (p, H', nx') = ⟨env, H', nx', n⟩ := rfl
@[simp] theorem runsL_nil {s : AState} : runsL Φ [] s K = K s := rfl
@[simp] theorem runsL_cons : runsL Φ (⟨d, k, xs, none⟩ :: r) ⟨env, H, nx, n⟩ K = ifSome (evalK Φ H nx k (xs.map (·.ev env))) fun q => runsL Φ r (AState.set ⟨env, H, nx, n⟩ d q) K := rfl
@[simp] theorem runsL_yes {g : Nat} {want : Bool} (h : look env g = some (.t (.v (.bool want)))) :
  runsL Φ (⟨d, k, xs, some (g, want)⟩ :: r) ⟨env, H, nx, n⟩ K = ifSome (evalK Φ H nx k (xs.map (·.ev env))) fun q => runsL Φ r (AState.set ⟨env, H, nx, n⟩ d q) K := by
 simp only [runsL, stepsM, Mini.wants, h, beq_self_eq_true, onWants_true]
theorem runsL_no {g : Nat} {want b : Bool} (h : look env g = some (.t (.v (.bool b)))) (hb : (b == want) = false) :
  runsL Φ (⟨d, k, xs, some (g, want)⟩ :: r) ⟨env, H, nx, n⟩ K = runsL Φ r (AState.set ⟨env, H, nx, n⟩ d (.t (.v undef), H, nx)) K := by
 simp only [runsL, stepsM, Mini.wants, h, hb, onWants_false]
@[simp] theorem runsL_no_t {g : Nat} (h : look env g = some (.t (.v (.bool false)))) :
  runsL Φ (⟨d, k, xs, some (g, true)⟩ :: r) ⟨env, H, nx, n⟩ K = runsL Φ r (AState.set ⟨env, H, nx, n⟩ d (.t (.v undef), H, nx)) K := runsL_no h rfl
@[simp] theorem runsL_no_f {g : Nat} (h : look env g = some (.t (.v (.bool true)))) :
  runsL Φ (⟨d, k, xs, some (g, false)⟩ :: r) ⟨env, H, nx, n⟩ K = runsL Φ r (AState.set ⟨env, H, nx, n⟩ d (.t (.v undef), H, nx)) K := runsL_no h rfl
@[simp] theorem runsL_no_u {g : Nat} {want : Bool} (h : look env g = some (.t (.v undef))) :
  runsL Φ (⟨d, k, xs, some (g, want)⟩ :: r) ⟨env, H, nx, n⟩ K = runsL Φ r (AState.set ⟨env, H, nx, n⟩ d (.t (.v undef), H, nx)) K := by
 simp only [runsL, stepsM, Mini.wants, h, undef, onWants_false]
@[simp] theorem runsD_nil {s : AState} : runsD Φ [] s K = K s := rfl
@[simp] theorem runsD_cons (hk : quietK k = true) : runsD Φ (⟨d, k, xs, none⟩ :: r) ⟨env, H, nx, n⟩ K = ifSome (evalQ Φ H nx k (xs.map (·.ev env))) fun v => runsD Φ r (AState.set ⟨env, H, nx, n⟩ d (v, H, nx)) K := by
 simp only [runsD, stepsD, hk, if_true, Mini.wants, onWants_true]
@[simp] theorem runsD_heavy (hk : quietK k = false) : runsD Φ (⟨d, k, xs, none⟩ :: r) ⟨env, H, nx, n⟩ K = ifSome (evalK Φ H nx k (xs.map (·.ev env))) fun q => runsD Φ r (AState.set ⟨env, H, nx, n⟩ d q) K := by
 simp only [runsD, stepsD, hk, Bool.false_eq_true, if_false, stepsM, Mini.wants, onWants_true]
@[simp] theorem runsD_yes {g : Nat} {want : Bool} (hk : quietK k = true) (h : look env g = some (.t (.v (.bool want)))) :
  runsD Φ (⟨d, k, xs, some (g, want)⟩ :: r) ⟨env, H, nx, n⟩ K = ifSome (evalQ Φ H nx k (xs.map (·.ev env))) fun v => runsD Φ r (AState.set ⟨env, H, nx, n⟩ d (v, H, nx)) K := by
 simp only [runsD, stepsD, hk, if_true, Mini.wants, h, beq_self_eq_true, onWants_true]
@[simp] theorem runsD_heavy_yes {g : Nat} {want : Bool} (hk : quietK k = false) (h : look env g = some (.t (.v (.bool want)))) :
  runsD Φ (⟨d, k, xs, some (g, want)⟩ :: r) ⟨env, H, nx, n⟩ K = ifSome (evalK Φ H nx k (xs.map (·.ev env))) fun q => runsD Φ r (AState.set ⟨env, H, nx, n⟩ d q) K := by
 simp only [runsD, stepsD, hk, Bool.false_eq_true, if_false, stepsM, Mini.wants, h, beq_self_eq_true, onWants_true]
theorem runsD_no {g : Nat} {want b : Bool} (h : look env g = some (.t (.v (.bool b)))) (hb : (b == want) = false) :
  runsD Φ (⟨d, k, xs, some (g, want)⟩ :: r) ⟨env, H, nx, n⟩ K = runsD Φ r (AState.set ⟨env, H, nx, n⟩ d (.t (.v undef), H, nx)) K := by
 simp only [runsD, stepsD, stepsM, Mini.wants, h, hb, onWants_false, ite_self]
@[simp] theorem runsD_no_t {g : Nat} (h : look env g = some (.t (.v (.bool false)))) :
  runsD Φ (⟨d, k, xs, some (g, true)⟩ :: r) ⟨env, H, nx, n⟩ K = runsD Φ r (AState.set ⟨env, H, nx, n⟩ d (.t (.v undef), H, nx)) K := runsD_no h rfl
@[simp] theorem runsD_no_f {g : Nat} (h : look env g = some (.t (.v (.bool true)))) :
  runsD Φ (⟨d, k, xs, some (g, false)⟩ :: r) ⟨env, H, nx, n⟩ K = runsD Φ r (AState.set ⟨env, H, nx, n⟩ d (.t (.v undef), H, nx)) K := runsD_no h rfl
@[simp] theorem runsD_no_u {g : Nat} {want : Bool} (h : look env g = some (.t (.v undef))) :
  runsD Φ (⟨d, k, xs, some (g, want)⟩ :: r) ⟨env, H, nx, n⟩ K = runsD Φ r (AState.set ⟨env, H, nx, n⟩ d (.t (.v undef), H, nx)) K := by
 simp only [runsD, stepsD, stepsM, Mini.wants, h, undef, onWants_false, ite_self]
variable {κ j b : Nat} {pd : Pend} {gr : List GI} {kp : Bool} {ag : List Nat}
@[simp] theorem agains_nil {C : Prop} : agains Φ pd H nx [] C = C := rfl
@[simp] theorem agains_cons {i : Nat} {r : List Nat} {C : Prop} : agains Φ pd H nx (i :: r) C = ifSome (look pd i) fun x => evalQ Φ H nx x.1 x.2.1 = some x.2.2 ∧ agains Φ pd H nx r C := rfl
@[simp] theorem keepG_true {m : Mini} {v : PV} : keepG true j m ⟨env, H, nx, n⟩ v pd = (j, m.k, m.xs.map (·.ev env), v) :: pd := rfl
@[simp] theorem keepG_false {m : Mini} {s : AState} {v : PV} : keepG false j m s v pd = pd := rfl
@[simp] theorem runsG_nil {s : AState} : runsG Φ κ j b pd [] s K = K s := rfl
@[simp] theorem runsG_cons (hk : quietK k = true) : runsG Φ κ j b pd (.o ⟨d, k, xs, none⟩ kp ag :: gr) ⟨env, H, nx, n⟩ K =
  ifSome (evalQ Φ H nx k (xs.map (·.ev env))) fun v => agains Φ pd H nx ag (runsG Φ κ (j + 1) b (keepG kp j ⟨d, k, xs, none⟩ ⟨env, H, nx, n⟩ v pd) gr (AState.set ⟨env, H, nx, n⟩ d (v, H, nx)) K) := by
 simp only [runsG, valD, hk, if_true, valQ, Mini.wants, ifSome_map]
@[simp] theorem runsG_heavy (hk : quietK k = false) : runsG Φ κ j b pd (.o ⟨d, k, xs, none⟩ kp ag :: gr) ⟨env, H, nx, n⟩ K =
  ifSome (evalK Φ H nx k (xs.map (·.ev env))) fun q => agains Φ pd q.2.1 q.2.2 ag (runsG Φ κ (j + 1) b (keepG kp j ⟨d, k, xs, none⟩ ⟨env, H, nx, n⟩ q.1 pd) gr (AState.set ⟨env, H, nx, n⟩ d q) K) := by
 simp only [runsG, valD, hk, Bool.false_eq_true, if_false, Mini.wants]
@[simp] theorem runsG_first {m : Mini} : runsG Φ κ j b pd (.g 0 m :: gr) ⟨env, H, nx, n⟩ K =
  ifSome (evalK Φ H (nx + κ) m.k (m.xs.map (·.ev env))) fun q => runsG Φ κ (j + 1) nx pd gr (AState.set ⟨env, H, nx, n⟩ m.dst (q.1, q.2.1, nx + 2 * κ)) K := rfl
@[simp] theorem runsG_more {m : Mini} {i : Nat} (hi : i ≠ 0) : runsG Φ κ j b pd (.g i m :: gr) ⟨env, H, nx, n⟩ K =
  ifSome (evalK Φ H (b + κ + i) m.k (m.xs.map (·.ev env))) fun q => runsG Φ κ (j + 1) b pd gr (AState.set ⟨env, H, nx, n⟩ m.dst (q.1, q.2.1, b + 2 * κ)) K := by
 simp only [runsG, if_neg hi]
@[simp] theorem runsM_drawG {l : List GI} : runsM Φ (.drawG κ l) ⟨env, H, nx, n⟩ Q = runsG Φ κ 0 0 [] l ⟨env, H, nx, n⟩ (Q .normal) := rfl
@[simp] theorem runsM_skip {s : AState} : runsM Φ .skip s Q = Q .normal s := rfl
@[simp] theorem runsM_ops {l : List Mini} : runsM Φ (.ops l) ⟨env, H, nx, n⟩ Q = runsL Φ l ⟨env, H, nx, n⟩ (Q .normal) := rfl
@[simp] theorem runsM_draw {l : List Mini} : runsM Φ (.draw l) ⟨env, H, nx, n⟩ Q = runsD Φ l ⟨env, H, nx, n⟩ (Q .normal) := rfl
@[simp] theorem runsM_seq {a b : MCode} : runsM Φ (.seq a b) ⟨env, H, nx, n⟩ Q = runsM Φ a ⟨env, H, nx, n⟩ (onNormal (fun s1 => runsM Φ b s1 Q) Q) := rfl
@[simp] theorem runsM_true {c : Opd} {a b : MCode} (h : c.ev env = .t (.v (.bool true))) : runsM Φ (.cond c a b) ⟨env, H, nx, n⟩ Q = runsM Φ a ⟨env, H, nx, n⟩ Q := by simp only [runsM, h, onBool_true]
@[simp] theorem runsM_false {c : Opd} {a b : MCode} (h : c.ev env = .t (.v (.bool false))) : runsM Φ (.cond c a b) ⟨env, H, nx, n⟩ Q = runsM Φ b ⟨env, H, nx, n⟩ Q := by simp only [runsM, h, onBool_false]
@[simp] theorem runsM_block {i : Nat} {a : MCode} : runsM Φ (.block i a) ⟨env, H, nx, n⟩ Q = runsM Φ a ⟨env, H, nx, n⟩ (InBlock i Q) := rfl
@[simp] theorem runsM_exit {i : Nat} {s : AState} : runsM Φ (.exit i) s Q = Q (.exit i) s := rfl
@[simp] theorem runsM_scope {a : MCode} : runsM Φ (.scope a) ⟨env, H, nx, n⟩ Q = runsM Φ a ⟨env, H, nx, n⟩ (NoGoto Q) := rfl
@[simp] theorem runsM_ret {s : AState} : runsM Φ .ret s Q = Q .ret s := rfl
@[simp] theorem endM_mk {vs : List RV} {R : T → Prop} : endM vs R ⟨env, H, nx, n⟩ = ifSome (resM ⟨env, H, nx, n⟩ vs) fun ps => ifSome (toT H (oneOf ps)) fun q => R q.1 := rfl
end
end Go.Abs
