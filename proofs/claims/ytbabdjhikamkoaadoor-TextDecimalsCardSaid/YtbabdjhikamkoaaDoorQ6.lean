/-
  Running whole functions on given data by reckoning ('callN'), with a number that bounds rounds and calls; that what it reckons is what the program returns. No statement of the program stands here.
  From the logic to a row's own words: slices of integers that came in are trees; a contract that says 'true' gives the walk's end, nothing below having changed. No statement of the program stands here.
  A contract over few rows holds over many: rows under other numbers, and rows beside. No statement of the program stands here.
  Reckoning with results that are known already ('memo'). No statement of the program stands here.
  Trees as data: ints, bools, strings, slices of structs ('Ty'); contracts told over data. No statement of the program stands here.
  Slices that a body appends to: whatever the number of their row ('RowAt', 'appH'). No statement of the program stands here.
  Strings: equal, less. No statement of the program stands here.
  Reading slices that lie in rows; lists that are worked off. No statement of the program stands here.
  Slices of slices that lie in rows, as what is appended; two rows side by side. No statement of the program stands here.
  Objects: one row of trees that methods change through its pointer; a slice that grows beside other rows. No statement of the program stands here.
-/
import Derived.Test.YtbabdjhikamkoaaDoorQ5
import Derived.Test.YtbabdjhikamkoaaDoorQ3
import Derived.ChangeSlices
import Derived.Below
import Derived.WalkKit
import Derived.ProofKit
import Derived.OpenShut
import Derived.Lib.LaidTab
namespace Go.Abs
set_option linter.unusedSimpArgs false
set_option linter.unusedVariables false
open Go

def iterF (f : AState → Option (Exit × AState)) : Nat → AState → Option (Exit × AState)
  | 0, _ => none
  | k + 1, s => match f s with
    | some (.normal, s') => iterF f k s'
    | r => r

/-- Each slot once. -/
def tidyE : List (Nat × PV) → List Nat → List (Nat × PV)
  | [], _ => []
  | (k, p) :: r, seen => if seen.contains k then tidyE r seen else (k, p) :: tidyE r (k :: seen)

mutual
/-- The rows that a value names. -/
def rowsOf : PV → List Nat
  | .row b _ _ _ => [b]
  | .ptr b _ => [b]
  | .ag cs => rowsOfL cs
  | .tu cs => rowsOfL cs
  | .fn _ a c => rowsOfL a ++ rowsOfL c
  | .ic _ x => rowsOf x
  | .mp b => [b]
  | _ => []
def rowsOfL : List PV → List Nat
  | [] => []
  | p :: ps => rowsOf p ++ rowsOfL ps
end

def rowsOfRow : Row → List Nat
  | .cells _ cs => rowsOfL cs
  | .iter _ _ => []

/-- Rows that nothing names are dropped. -/
def sweep (env : List (Nat × PV)) (H : Heap) : Heap :=
  let used := env.flatMap (fun q => rowsOf q.2) ++ H.flatMap (fun q => rowsOfRow q.2)
  H.filter fun q => used.contains q.1

def tidy (s : AState) : AState :=
  let env := tidyE s.env []
  { s with env := env, H := sweep env s.H }

theorem tidyE_mem : ∀ (l : List (Nat × PV)) (seen : List Nat) q, q ∈ tidyE l seen → look l q.1 = some q.2 ∧ q.1 ∉ seen
  | [], seen, q, h => by simp [tidyE] at h
  | (k, p) :: r, seen, q, h => by
    simp only [tidyE] at h
    split at h
    · rename_i hk
      obtain ⟨h1, h2⟩ := tidyE_mem r seen q h
      have : k ≠ q.1 := fun e => h2 (by rw [← e]; simpa using hk)
      simp [this, h1, h2]
    · rename_i hk
      rcases List.mem_cons.1 h with rfl | h
      · simpa using hk
      · obtain ⟨h1, h2⟩ := tidyE_mem r (k :: seen) q h
        simp only [List.mem_cons, not_or] at h2
        have : k ≠ q.1 := fun e => h2.1 e.symm
        simp [this, h1, h2.2]

/-- No number stands twice. -/
def Uniq (H : Heap) : Prop := ∀ q ∈ H, look H q.1 = some q.2

/-- The slices that rows name. -/
def innerC : PV → List Nat
  | .row b _ _ _ => [b]
  | _ => []
def inner (H : Heap) : List Nat := H.flatMap fun q => match q.2 with
  | .cells _ cs => cs.flatMap innerC
  | _ => []
def isCall : MK → Bool
  | .call _ => true
  | _ => false
/-- Functions that return what shares with their arguments. -/
def shares : List Nat := []
def given (m : Mini) (s : AState) : List Nat := match m.k with
  | .call f => if shares.contains f then m.xs.flatMap (fun x => innerC (x.ev s.env)) else []
  | _ => []
/-- Before a call the slices within slices are frozen, and those that are handed to some functions. -/
def preZ (m : Mini) (s : AState) : AState := if isCall m.k then (match inner s.H ++ given m s with | [] => s | F => s.frz F) else s
def runZ (Φ : Oracle) : List Mini → AState → Option AState
  | [], s => some s
  | m :: r, s => match stepM Φ (preZ m s) m with
    | some s' => runZ Φ r s'
    | none => none

/-! Values that are seen to be the same. -/

def eqV : Value → Value → Bool
  | .int k a, .int k' b => decide (k = k') && (a == b)
  | .bool a, .bool b => a == b
  | .string a, .string b => a.data.toList == b.data.toList
  | .slice none 0 0, .slice none 0 0 => true
  | _, _ => false
theorem eqV_eq {a b : Value} (h : eqV a b = true) : a = b := by
  unfold eqV at h
  split at h
  · simp only [Bool.and_eq_true, decide_eq_true_eq, beq_iff_eq] at h
    rw [h.1, h.2]
  · simp at h; rw [h]
  · rename_i a b
    simp only [beq_iff_eq] at h
    have : a = b := by
      cases a; cases b
      congr
      exact Array.toList_inj.1 h
    rw [this]
  · rfl
  · cases h
mutual
def eqT : T → T → Bool
  | .v a, .v b => eqV a b
  | .sl n l, .sl m r => (n == m) && eqTs l r
  | .ag l, .ag r => eqTs l r
  | .tu l, .tu r => eqTs l r
  | _, _ => false
def eqTs : List T → List T → Bool
  | [], [] => true
  | a :: l, b :: r => eqT a b && eqTs l r
  | _, _ => false
end
mutual
theorem eqT_eq : ∀ (a b : T), eqT a b = true → a = b
  | .v a, .v b, h => by simp only [eqT] at h; rw [eqV_eq h]
  | .sl n l, .sl m r, h => by
    simp only [eqT, Bool.and_eq_true, beq_iff_eq] at h
    rw [h.1, eqTs_eq l r h.2]
  | .ag l, .ag r, h => by simp only [eqT] at h; rw [eqTs_eq l r h]
  | .tu l, .tu r, h => by simp only [eqT] at h; rw [eqTs_eq l r h]
  | .v _, .sl _ _, h => by simp [eqT] at h
  | .v _, .ag _, h => by simp [eqT] at h
  | .v _, .tu _, h => by simp [eqT] at h
  | .v _, .pt _, h => by simp [eqT] at h
  | .sl _ _, .v _, h => by simp [eqT] at h
  | .sl _ _, .ag _, h => by simp [eqT] at h
  | .sl _ _, .tu _, h => by simp [eqT] at h
  | .sl _ _, .pt _, h => by simp [eqT] at h
  | .ag _, .v _, h => by simp [eqT] at h
  | .ag _, .sl _ _, h => by simp [eqT] at h
  | .ag _, .tu _, h => by simp [eqT] at h
  | .ag _, .pt _, h => by simp [eqT] at h
  | .tu _, .v _, h => by simp [eqT] at h
  | .tu _, .sl _ _, h => by simp [eqT] at h
  | .tu _, .ag _, h => by simp [eqT] at h
  | .tu _, .pt _, h => by simp [eqT] at h
  | .pt _, _, h => by simp [eqT] at h
theorem eqTs_eq : ∀ (a b : List T), eqTs a b = true → a = b
  | [], [], _ => rfl
  | a :: l, b :: r, h => by
    simp only [eqTs, Bool.and_eq_true] at h
    rw [eqT_eq a b h.1, eqTs_eq l r h.2]
  | [], _ :: _, h => by simp [eqTs] at h
  | _ :: _, [], h => by simp [eqTs] at h
end

def eqP : PV → PV → Bool
  | .t x, .t y => eqT x y
  | .row b o n z, .row b' o' n' z' => b == b' && o == o' && n == n' && z == z'
  | .ptr b o, .ptr b' o' => b == b' && o == o'
  | _, _ => false

theorem eqP_eq (x y : PV) (h : eqP x y = true) : x = y := by
  unfold eqP at h
  split at h
  · rw [eqT_eq _ _ h]
  · simp at h; obtain ⟨⟨⟨rfl, rfl⟩, rfl⟩, rfl⟩ := h; rfl
  · simp at h; obtain ⟨rfl, rfl⟩ := h; rfl
  · cases h

def agnB (Φ : Oracle) (pd : Pend) (H : Heap) (nx : Nat) (ks : List Nat) : Bool := ks.all fun i => match look pd i with
  | some x => (match evalQ Φ H nx x.1 x.2.1 with
    | some v => eqP v x.2.2
    | none => false)
  | none => false

theorem agnB_sound {Φ : Oracle} {pd : Pend} {H : Heap} {nx : Nat} {ks : List Nat} (h : agnB Φ pd H nx ks = true) : agnP Φ pd H nx ks := by
  intro i hi
  have := List.all_eq_true.1 h i hi
  split at this
  · rename_i x hx
    split at this
    · rename_i v hv; exact ⟨x, hx, by rw [hv, eqP_eq _ _ this]⟩
    · cases this
  · cases this

def runB (Φ : Oracle) (k : Nat) : Nat → Nat → Pend → List GI → AState → Option AState
  | _, _, _, [], s => some s
  | n, b, pd, .o m kp ag :: r, s => match valD Φ s m with
    | some (v, H', nx') => if agnB Φ pd H' nx' ag then runB Φ k (n + 1) b (keepG kp n m s v pd) r (({ s with H := H', nx := nx' } : AState).put m.dst v) else none
    | none => none
  | n, b, pd, .g j m :: r, s => match evalK Φ s.H ((if j = 0 then s.nx else b) + k + j) m.k (m.xs.map (·.ev s.env)) with
    | some (v, H', _) => runB Φ k (n + 1) (if j = 0 then s.nx else b) pd r (({ s with H := H', nx := (if j = 0 then s.nx else b) + 2 * k } : AState).put m.dst v)
    | none => none

theorem runB_sound {Φ : Oracle} {k : Nat} : ∀ (l : List GI) {n b : Nat} {pd : Pend} {s s' : AState}, runB Φ k n b pd l s = some s' → runG Φ k n b pd l s = some s'
  | [], n, b, pd, s, s', h => h
  | .o m kp ag :: r, n, b, pd, s, s', h => by
    simp only [runB] at h
    simp only [runG]
    split at h
    · rename_i hv
      split at h
      · rename_i ha
        simp only [hv, if_pos (agnB_sound ha)]
        exact runB_sound r h
      · cases h
    · cases h
  | .g j m :: r, n, b, pd, s, s', h => by
    simp only [runB] at h
    simp only [runG]
    split at h
    · rename_i hv
      simp only [hv]
      exact runB_sound r h
    · cases h

def runF (Φ : Oracle) (k : Nat) : MCode → AState → Option (Exit × AState)
  | .skip, s => some (.normal, s)
  | .ops l, s => match runZ Φ l s with
    | some s1 => some (.normal, s1)
    | none => none
  | .draw l, s => match runD Φ l s with
    | some s1 => some (.normal, s1)
    | none => none
  | .drawG k l, s => match runB Φ k 0 0 [] l s with
    | some s1 => some (.normal, s1)
    | none => none
  | .seq a b, s => match runF Φ k a s with
    | some (.normal, s1) => runF Φ k b s1
    | r => r
  | .cond c a b, s => match c.ev s.env with
    | .t (.v (.bool t)) => bif t then runF Φ k a s else runF Φ k b s
    | _ => none
  | .block id b, s => match runF Φ k b s with
    | some (.exit i, s1) => if i = id then some (.normal, s1) else some (.exit i, s1)
    | r => r
  | .loop b, s => iterF (fun s => match runF Φ k b { s with env := tidyE s.env [] } with
    | r => r) k s
  | .exit id, s => some (.exit id, s)
  | .ret, s => some (.ret, s)
  | .scope b, s => match runF Φ k b s with
    | some (.goto _, _) => none
    | r => r

section
variable {P : Program} {G : Globs} {B N : Nat} {Φ : Oracle}

theorem preZ_n (m : Mini) (s : AState) : (preZ m s).n = s.n := by
  unfold preZ
  split
  · split <;> rfl
  · rfl
theorem sub_preZ (m : Mini) (s : AState) : Sub P G B s (preZ m s) := by
  unfold preZ
  split
  · split
    · exact Sub.refl s
    · exact sub_frz _
  · exact Sub.refl s
theorem runZ_n : ∀ {l : List Mini} {s s' : AState}, runZ Φ l s = some s' → s'.n = s.n
  | [], s, s', h => by simp only [runZ, Option.some.injEq] at h; rw [h]
  | m :: r, s, s', h => by
    simp only [runZ] at h
    split at h
    · rename_i s1 h1; rw [runZ_n h, stepM_n h1, preZ_n]
    · cases h
theorem wpList_post {ops : Array Oper} {Q Q' : Exit → Act → World → Prop} (hq : ∀ e a w, Q e a w → Q' e a w) : ∀ (l : List Oper) (a : Act) (w : World), wpList P ops Q l a w → wpList P ops Q' l a w := by
  intro l
  induction l with
  | nil => intro a w2 h; exact hq _ _ _ h
  | cons o r ih =>
    intro a w2 h
    unfold wpList at h ⊢
    split
    · rename_i hw
      rw [if_pos hw] at h
      rcases h with h | ⟨h1, a0, w0, h2⟩
      · exact .inl (oper_wp_mono ih hq h)
      · exact .inr ⟨h1, a0, w0, hq _ _ _ h2⟩
    · rename_i hw
      rw [if_neg hw] at h
      exact ih _ _ h
theorem AOps.sub {ops : Array Oper} {l : List Oper} {Q : AState → Prop} {s s' : AState} (h : Sub P G B s s') (hc : AOps P G B ops l Q s') : AOps P G B ops l Q s := fun L a w hi => by
  obtain ⟨L', hi', hx, hb⟩ := h L a w hi
  exact wpList_post (fun _ _ _ hp => Post.later hx hb hp) _ _ _ (hc L' a w hi')
theorem runZ_sound (hΦ : Φ.Sound P G) {d : Bool} {ops : Array Oper} {Q : AState → Prop} : ∀ (os : List Oper) {l : List Mini} {s s' : AState}, Alike P G N d ops os l → s.n = N → runZ Φ l s = some s' → Q s' → AOps P G B ops os Q s
  | [], l, s, s', ha, hn, h, hq => by
    simp only [Alike] at ha
    subst ha
    simp only [runZ, Option.some.injEq] at h
    subst h
    exact aops_nil hq
  | o :: rest, l, s, s', ha, hn, h, hq => by
    simp only [Alike] at ha
    obtain ⟨m, l', rfl, hm, hr⟩ := ha
    obtain ⟨hc, hdst, hd, hw⟩ := compMini_spec hm
    simp only [runZ] at h
    refine AOps.sub (sub_preZ m s) ?_
    have hn : (preZ m s).n = N := (preZ_n m s).trans hn
    generalize preZ m s = s at h hn
    split at h
    · rename_i s1 h1
      unfold stepM at h1
      rw [← hw s] at h1
      have hd' : ∀ k, o.dst = some k → k < s.n := fun k hk => by rw [hn]; exact hd k hk
      rw [hdst] at h1
      split at h1
      · rename_i hww
        split at h1
        · rename_i r H' nx' hv
          injection h1 with h1
          subst h1
          exact aops_cons hww hd' (opK_aop hΦ hc hv) (runZ_sound hΦ rest hr (by rw [put_n]; exact hn) h hq)
        · cases h1
      · rename_i hww
        injection h1 with h1
        subst h1
        exact aops_skip hww hd' (runZ_sound hΦ rest hr (by rw [put_n]; exact hn) h hq)
      · cases h1
    · cases h

theorem runF_n (k : Nat) : ∀ (M : MCode) {s : AState} {e : Exit} {s' : AState}, runF Φ k M s = some (e, s') → s'.n = s.n
  | .skip, s, e, s', h => by simp only [runF, Option.some.injEq, Prod.mk.injEq] at h; rw [h.2]
  | .ops l, s, e, s', h => by
    simp only [runF] at h
    split at h
    · rename_i s1 h1; simp only [Option.some.injEq, Prod.mk.injEq] at h; rw [← h.2, runZ_n h1]
    · cases h
  | .draw l, s, e, s', h => by
    simp only [runF] at h
    split at h
    · rename_i s1 h1; simp only [Option.some.injEq, Prod.mk.injEq] at h; rw [← h.2, runD_n h1]
    · cases h
  | .drawG k l, s, e, s', h => by
    simp only [runF] at h
    split at h
    · rename_i s1 h1; simp only [Option.some.injEq, Prod.mk.injEq] at h; rw [← h.2, runG_n l (runB_sound l h1)]
    · cases h
  | .seq a b, s, e, s', h => by
    simp only [runF] at h
    split at h
    · rename_i s1 h1; rw [runF_n k b h, runF_n k a h1]
    · exact runF_n k a h
  | .cond c a b, s, e, s', h => by
    simp only [runF] at h
    split at h
    · rename_i t ht
      cases t
      · exact runF_n k b h
      · exact runF_n k a h
    · cases h
  | .block id b, s, e, s', h => by
    simp only [runF] at h
    split at h
    · rename_i i s1 h1
      split at h
      · simp only [Option.some.injEq, Prod.mk.injEq] at h; rw [← h.2, runF_n k b h1]
      · simp only [Option.some.injEq, Prod.mk.injEq] at h; rw [← h.2, runF_n k b h1]
    · exact runF_n k b h
  | .loop b, s, e, s', h => by
    simp only [runF] at h
    have : ∀ (m : Nat) (s : AState), iterF (fun s => runF Φ k b { s with env := tidyE s.env [] }) m s = some (e, s') → s'.n = s.n := by
      intro m
      induction m with
      | zero => intro s h; cases h
      | succ m ih =>
        intro s h
        simp only [iterF] at h
        split at h
        · rename_i s1 h1; have := runF_n k b h1; rw [ih s1 h, this]
        · have := runF_n k b h; exact this
    exact this k s h
  | .exit id, s, e, s', h => by simp only [runF, Option.some.injEq, Prod.mk.injEq] at h; rw [h.2]
  | .ret, s, e, s', h => by simp only [runF, Option.some.injEq, Prod.mk.injEq] at h; rw [h.2]
  | .scope b, s, e, s', h => by
    simp only [runF] at h
    split at h
    · cases h
    · exact runF_n k b h

theorem sub_tidyE {s : AState} (hu : True) : Sub P G B s { s with env := tidyE s.env [] } := by
  intro L a w hi
  exact ⟨L, ⟨hi.heap, hi.nx, hi.base, hi.size, hi.defers, fun k p h => hi.env k p (tidyE_mem _ _ _ (mem_of_look h)).1⟩, Ext.refl _ _ _, fun _ _ => rfl⟩

theorem mc_runF (hΦ : Ctx P G Φ) (k : Nat) : ∀ (M : MCode) {Q : Exit → AState → Prop} {s : AState} {e : Exit} {s' : AState}, runF Φ k M s = some (e, s') → Q e s' → MC P G B N M Q s
  | .skip, Q, s, e, s', h, hq => mc_run hΦ .skip h hq
  | .ops l, Q, s, e, s', h, hq => by
    simp only [runF] at h
    split at h
    · rename_i s1 h1
      simp only [Option.some.injEq, Prod.mk.injEq] at h
      obtain ⟨rfl, rfl⟩ := h
      intro c hc hn
      obtain ⟨id, ops, rfl, hl⟩ := comp_cases hc
      exact acode_region (runZ_sound hΦ.sound _ (alike_of_mapM hl) hn h1 hq)
    · cases h
  | .draw l, Q, s, e, s', h, hq => mc_run hΦ (.draw l) h hq
  | .drawG k l, Q, s, e, s', h, hq => by
    simp only [runF] at h
    split at h
    · rename_i s1 h1
      exact mc_run hΦ (.drawG k l) (by simp only [runM, runB_sound l h1]; exact h) hq
    · cases h
  | .seq a b, Q, s, e, s', h, hq => by
    intro c hc hn
    refine mc_seq ?_ c hc hn
    simp only [runF] at h
    split at h
    · rename_i s1 h1
      exact mc_runF hΦ k a h1 ⟨(runF_n k a h1).trans hn, mc_runF hΦ k b h hq⟩
    · rename_i hne
      refine mc_runF hΦ k a h ?_
      cases e
      case normal => exact absurd h (hne s')
      all_goals exact hq
  | .cond c a b, Q, s, e, s', h, hq => by
    simp only [runF] at h
    split at h
    · rename_i t ht
      refine mc_cond ht ?_
      cases t
      · exact mc_runF hΦ k b h hq
      · exact mc_runF hΦ k a h hq
    · cases h
  | .block id b, Q, s, e, s', h, hq => by
    refine mc_block ?_
    simp only [runF] at h
    split at h
    · rename_i i s1 h1
      refine mc_runF hΦ k b h1 ?_
      simp only [inBlock_exit]
      split at h
      · rename_i hid
        rw [if_pos hid]
        simp only [Option.some.injEq, Prod.mk.injEq] at h
        obtain ⟨rfl, rfl⟩ := h
        exact hq
      · rename_i hid
        rw [if_neg hid]
        simp only [Option.some.injEq, Prod.mk.injEq] at h
        obtain ⟨rfl, rfl⟩ := h
        exact hq
    · rename_i hne
      refine mc_runF hΦ k b h ?_
      cases e
      case exit i => exact absurd h (hne i s')
      all_goals exact hq
  | .loop b, Q, s, e, s', h, hq => by
    simp only [runF] at h
    intro c hc hn
    refine mc_loop (fun m s => s.n = N ∧ iterF (fun s => runF Φ k b { s with env := tidyE s.env [] }) m s = some (e, s')) k ⟨hn, h⟩ (fun _ _ h => h.1) ?_ c hc hn
    rintro m s ⟨hsn, hm⟩
    cases m with
    | zero => cases hm
    | succ m =>
      refine MC.sub (sub_tidyE trivial) rfl ?_
      simp only [iterF] at hm
      split at hm
      · rename_i s1 h1
        exact mc_runF hΦ k b h1 ⟨m, by omega, s1, Sub.refl s1, (runF_n k b h1).trans hsn, hm⟩
      · rename_i hne
        refine mc_runF hΦ k b hm ?_
        cases e
        case normal => exact absurd hm (hne s')
        all_goals exact hq
  | .exit id, Q, s, e, s', h, hq => mc_run hΦ (.exit id) h hq
  | .ret, Q, s, e, s', h, hq => mc_run hΦ .ret h hq
  | .scope b, Q, s, e, s', h, hq => by
    refine mc_scope ?_
    simp only [runF] at h
    split at h
    · cases h
    · rename_i hne
      refine mc_runF hΦ k b h ?_
      cases e
      case goto l => exact absurd h (hne l s')
      all_goals exact hq

/-- The functions of a program in compact form. -/
structure FnM where
  k : Nat
  N : Nat
  M : MCode
  vs : List RV

def endZ (s : AState) : AState := match inner s.H with | [] => s | F => s.frz F
def resT (vs : List RV) (s : AState) : Option T := match resM s vs with
  | some ps => match toT s.H (oneOf ps) with
    | some (r, _) => some r
    | none => none
  | none => none
def callNT (tab : List (Nat × FnM)) (rounds : Nat) (Φ : Oracle) (f : FuncId) (args : List T) : Option T :=
  match look tab f with
  | some fm => if args.length = fm.k then
      (match runF Φ rounds fm.M (startM fm.N args) with
      | some (.ret, s) => resT fm.vs (endZ s)
      | _ => none)
    else none
  | none => none

def allUnder (nx : Nat) (H : Heap) : Bool := H.all fun q => decide (q.1 < nx)

def callNH (tab : List (Nat × FnM)) (rounds : Nat) (Φ : Oracle) (f : FuncId) (ps : List PV) (H : Heap) (nx : Nat) : Option (PV × Heap × Nat) :=
  match look tab f with
  | some fm => if ps.length = fm.k then
      (match runF Φ rounds fm.M ⟨startsP 0 ps, H, nx, fm.N⟩ with
      | some (.normal, s) => match resM s fm.vs with
        | some rs => if allUnder s.nx s.H then some (oneOf rs, s.H, s.nx) else none
        | none => none
      | some (.ret, s) => match resM s fm.vs with
        | some rs => if allUnder s.nx s.H then some (oneOf rs, s.H, s.nx) else none
        | none => none
      | _ => none)
    else none
  | none => none

def callN (tab : List (Nat × FnM)) (rounds : Nat) : Nat → Oracle
  | 0 => ⟨fun _ _ => none, fun _ _ _ _ => none⟩
  | n + 1 => ⟨callNT tab rounds (callN tab rounds n), callNH tab rounds (callN tab rounds n)⟩

def TabOK (P : Program) (G : Globs) (tab : List (Nat × FnM)) : Prop := ∀ q ∈ tab, FnOK P G q.1 q.2.k q.2.N q.2.M q.2.vs

theorem sub_endZ (s : AState) : Sub P G B s (endZ s) := by
  unfold endZ
  split
  · exact Sub.refl s
  · exact sub_frz _
theorem callNT_sound (hm : P.follows .mixedOrders = true) {tab : List (Nat × FnM)} (ht : TabOK P G tab) (rounds : Nat) (hΦ : Φ.Sound P G) (f : FuncId) (args : List T) (r : T) (h : callNT tab rounds Φ f args = some r) : CallT P G f args (· = r) := by
  unfold callNT at h
  split at h
  · rename_i fm hf
    split at h
    · rename_i hk
      split at h
      · rename_i s hr
        unfold resT at h
        split at h
        · rename_i ps hps
          split at h
          · rename_i r' F hT
            injection h with h; subst h
            refine (ht _ (mem_of_look hf)).call hk fun c hc hn => ?_
            exact (mc_runF (Q := fun e s1 => e = .ret ∧ s1 = s) ⟨hm, hΦ⟩ rounds fm.M hr ⟨rfl, rfl⟩ c hc hn).post fun e s1 hq => ⟨endZ s1, sub_endZ s1, by
              obtain ⟨rfl, rfl⟩ := hq
              exact ⟨.inr rfl, ps, r', F, hps, hT, rfl⟩⟩
          · cases h
        · cases h
      · cases h
    · cases h
  · cases h

theorem look_all {nx : Nat} {H : Heap} (h : allUnder nx H = true) (b : Nat) (x : Row) (hb : look H b = some x) : b < nx := by
  have := List.all_eq_true.1 h _ (mem_of_look hb)
  simpa using this

theorem callNH_sound (hm : P.follows .mixedOrders = true) {tab : List (Nat × FnM)} (ht : TabOK P G tab) (rounds : Nat) (hΦ : Φ.Sound P G) (f : FuncId) (ps : List PV) (H : Heap) (nx : Nat) (r : PV) (H' : Heap) (nx' : Nat)
    (h : callNH tab rounds Φ f ps H nx = some (r, H', nx')) : CallP P G f ps H nx r H' nx' ∧ ∀ b x, look H' b = some x → b < nx' := by
  unfold callNH at h
  split at h
  · rename_i fm hf
    split at h
    · rename_i hk
      split at h
      · rename_i s hr
        split at h
        · rename_i rs hps
          split at h
          · rename_i ha
            injection h with h; injection h with h1 h2; injection h2 with h2 h3; subst h1; subst h2; subst h3
            exact ⟨(ht _ (mem_of_look hf)).callP hk (mc_runF ⟨hm, hΦ⟩ rounds fm.M hr ⟨.inl rfl, s, rs, Sub.refl s, hps, rfl, rfl, rfl⟩), look_all ha⟩
          · cases h
        · cases h
      · rename_i s hr
        split at h
        · rename_i rs hps
          split at h
          · rename_i ha
            injection h with h; injection h with h1 h2; injection h2 with h2 h3; subst h1; subst h2; subst h3
            exact ⟨(ht _ (mem_of_look hf)).callP hk (mc_runF ⟨hm, hΦ⟩ rounds fm.M hr ⟨.inr rfl, s, rs, Sub.refl s, hps, rfl, rfl, rfl⟩), look_all ha⟩
          · cases h
        · cases h
      · cases h
    · cases h
  · cases h

theorem callN_sound (hm : P.follows .mixedOrders = true) {tab : List (Nat × FnM)} (ht : TabOK P G tab) (rounds : Nat) : ∀ n, (callN tab rounds n).Sound P G
  | 0 => ⟨fun _ _ _ h => (by cases h), fun _ _ _ _ _ _ _ h => (by cases h), fun _ _ _ _ _ _ _ h => (by cases h)⟩
  | n + 1 => ⟨fun f args r h => callNT_sound hm ht rounds (callN_sound hm ht rounds n) f args r h, fun f ps H nx r H' nx' h => (callNH_sound hm ht rounds (callN_sound hm ht rounds n) f ps H nx r H' nx' h).1,
      fun f ps H nx r H' nx' h _ => (callNH_sound hm ht rounds (callN_sound hm ht rounds n) f ps H nx r H' nx' h).2⟩
end
end Go.Abs

namespace Go.Abs
set_option linter.unusedSimpArgs false
set_option linter.unusedVariables false
open Go Go.ChangeShapes Go.WideShapes Go.ChangeAt Go.RowKit

def Old (w : World) (b : Nat) : Prop := b < w.heap.size

theorem cell_lt {w : World} {a : Addr} {x : Value} (h : w.cell? a = some x) : a.block < w.heap.size := by
  unfold World.cell? at h
  cases hh : w.heap[a.block]? with
  | none => simp [hh] at h
  | some b => exact (Array.getElem?_eq_some_iff.1 hh).1

/-- What a slice of integers is, as a tree. -/
def IntsT (k : IntKind) (t : T) (zs : List Int) : Prop :=
  zs.length ≤ maxLen ∧ (∀ n ∈ zs, (Lit.int k n).wf = true) ∧ ((t = .v (.slice none 0 0) ∧ zs = []) ∨ t = .sl zs.length (zs.map fun n => .v (.int k n)))

theorem read_ints {H : Type} {enc : TypeId × Value → H} {P : Program} {W : World} {spare : Nat → Bool} {held : Bool} {t e : TypeId} {k : IntKind} {a : Option Addr} {len cap : Nat} {d : DataW H} {p : List MemPlace}
    (ht : P.underlying t = some (.slice e)) (he : P.underlying e = some (.int k)) (hc : P.cellsOf e = 1)
    (h : DataW.Trod enc P W 0 spare held t (.slice a len cap) d p) : ∃ x zs, IntsT k x zs ∧ RepT (Old W) W x (.slice a len cap) := by
  obtain ⟨fuel, hf⟩ := h
  rcases open_ints ht he hc hf with ⟨hcs, _⟩ | ⟨x, l, c, zs, hcs, _, hl, hm, hz, _, hcell, hwz⟩
  · simp [Value.cells] at hcs
    obtain ⟨rfl, rfl, rfl⟩ := hcs
    exact ⟨.v (.slice none 0 0), [], ⟨by simp, by simp, .inl ⟨rfl, rfl⟩⟩, by simp only [RepT]⟩
  · simp [Value.cells] at hcs
    obtain ⟨rfl, rfl, rfl⟩ := hcs
    have hlz : len ≤ zs.length := by rw [hz]; split <;> omega
    refine ⟨.sl (zs.take len).length ((zs.take len).map fun n => .v (.int k n)), zs.take len, ⟨by simp; omega, fun n hn => hwz n (List.mem_of_mem_take hn), .inr rfl⟩, ?_⟩
    simp only [RepT, List.length_take, Nat.min_eq_left hlz]
    refine ⟨x, cap, rfl, hl, ?_⟩
    by_cases h0 : len = 0
    · left; subst h0; simp
    · right
      have c0 := hcell 0 (by omega)
      have hs : x.spot = none := by simpa [Addr.add] using World.cell?_spot c0
      refine ⟨hs, by simpa [Addr.add, Old] using cell_lt c0, RepC.mk fun j c hj => ?_⟩
      simp only [List.getElem?_map, Option.map_eq_some_iff] at hj
      obtain ⟨n, hn, rfl⟩ := hj
      have hj : j < len := by
        have := (List.getElem?_eq_some_iff.1 hn).1
        simp at this; omega
      have hn' : zs[j]? = some n := by rw [List.getElem?_take, if_pos hj] at hn; exact hn
      refine ⟨.int k n, ?_, rfl, by simp only [RepT]⟩
      have := hcell j (by omega)
      obtain ⟨xb, xo, xs⟩ := x
      simp only at hs
      subst hs
      cases j with
      | zero => simpa [Addr.add, List.getD_eq_getElem?_getD, hn'] using this
      | succ j => simpa [Addr.add, List.getD_eq_getElem?_getD, hn'] using this

theorem CallT.true {P : Program} {G : Globs} {f : FuncId} {ts : List T} {W : World} {us : Array Value} (h : CallT P G f ts (· = .v (.bool true)))
    (hG : ∀ g cs, look G g = some cs → Old W g ∧ RepG (Old W) W cs g) (hr : RepL (Old W) W ts us.toList) :
    Calls P f us W fun e w' => e = .returned (.bool true) ∧ Below W.heap.size W w' := by
  refine (h.2 (Old W) W us (fun _ hb => hb) hG hr).mono fun e w' ⟨v, r, I', he, hR, hv, ho, hs, hsame, _⟩ => ?_
  subst hR
  simp only [RepT] at hv
  subst hv
  exact ⟨he, ⟨ho.1, ho.2.1, ho.2.2, hs, hsame⟩⟩

/-- A package-level variable, and what its block holds. -/
theorem glob_var {P : Program} {W : World} {name : String} {g : Nat} {vs : List Value} (h : W.var? P name = some vs.toArray) (hg : P.globalNamed name = some g) (h1 : ∀ x ∈ vs, x.oneCell' = true) : Old W g ∧ RepG (Old W) W (vs.map .v) g := by
  unfold World.var? at h
  rw [hg] at h
  simp only [Option.bind_some] at h
  split at h
  · rename_i cs ty fz hw
    injection h with h
    subst h
    refine ⟨(Array.getElem?_eq_some_iff.1 hw).1, RepC.mk fun j c hj => ?_, _, _, _, hw, by simp⟩
    simp only [List.getElem?_map, Option.map_eq_some_iff] at hj
    obtain ⟨n, hn, rfl⟩ := hj
    refine ⟨n, ?_, h1 n (List.mem_of_getElem? hn), by simp only [RepT]⟩
    simp [World.cell?, hw, hn]
  · cases h

theorem repL_v {I : Nat → Prop} {w : World} : ∀ {vs us : List Value}, RepL I w (vs.map .v) us → us = vs
  | [], us, h => by simpa only [List.map_nil, RepL] using h
  | v :: vs, us, h => by
    simp only [List.map_cons, RepL] at h
    obtain ⟨x, xs, rfl, hx, hxs⟩ := h
    simp only [RepT] at hx
    rw [hx, repL_v hxs]

theorem var_glob {P : Program} {I : Nat → Prop} {W : World} {name : String} {g : Nat} {vs : List Value} (hg : P.globalNamed name = some g) (h : RepG I W (vs.map .v) g) : W.var? P name = some vs.toArray := by
  obtain ⟨h, arr, ty, fz, hw, hn⟩ := h
  unfold World.var?
  rw [hg]
  simp only [Option.bind_some, hw, Option.some.injEq]
  apply Array.ext'
  refine List.ext_getElem? fun j => ?_
  by_cases hj : j < vs.length
  · obtain ⟨x, hx, _, hr⟩ := h.at_ j (c := .v vs[j]) (by simp [hj])
    simp only [RepT] at hr
    subst hr
    simp only [World.cell?, hw, Nat.zero_add] at hx
    simpa [hj] using hx
  · have : arr.size ≤ j := by simp at hn; omega
    rw [List.getElem?_eq_none (by simpa using this), List.getElem?_eq_none (by simpa using hj)]

theorem glob_tab {P : Program} {W : World} {name : String} {k : IntKind} {zs : List Int} {g : Nat} (h : Lib.TabIs P W name k zs) (hg : P.globalNamed name = some g) : Old W g ∧ RepG (Old W) W (zs.map fun n => .v (.int k n)) g := by
  have := glob_var (vs := zs.map fun z => Value.int k z) h hg (fun x hx => by obtain ⟨z, _, rfl⟩ := List.mem_map.1 hx; rfl)
  rwa [List.map_map] at this

/-- A contract of the library: it returns a plain value, and writes nothing that was there. -/
theorem CallT.lib {P : Program} {G : Globs} {f : FuncId} {vs : List Value} {r : Value} (hf : IsFn P f)
    (h : ∀ (I : Nat → Prop) (w : World), (∀ g cs, look G g = some cs → I g ∧ RepG I w cs g) → Calls P f vs.toArray w fun e w' => e = .returned r ∧ Below w.heap.size w w') : CallT P G f (vs.map .v) (· = .v r) := by
  refine ⟨hf, fun I w us hlt hglob hargs => ?_⟩
  have e : us = vs.toArray := by
    have := repL_v hargs
    rw [← this]
  subst e
  refine (h I w hglob).mono fun e w' ⟨he, hb⟩ => ?_
  exact ⟨r, _, I, he, rfl, by simp only [RepT], ⟨hb.os, hb.tape, hb.output⟩, hb.size, hb.block, fun _ h => h, fun _ h => .inl h, fun g hg => Nat.lt_of_lt_of_le (hlt g hg) hb.size⟩

end Go.Abs

namespace Go.Abs
set_option linter.unusedSimpArgs false
set_option linter.unusedVariables false
open Go

section
variable {P : Program} {G : Globs}

mutual
theorem ren_up {L L' : Loc} {w : World} {σ : Nat → Nat} {n : Nat} (hI : L'.I = L.I) (hμ : ∀ b, b < n → L'.μ (σ b) = L.μ b ∧ σ b < L'.nx) : ∀ (p : PV) {u : Value}, under n p = true → RepV P L w p u → RepV P L' w (ren σ p) u
  | .t x, u, _, h => by simp only [ren, RepV, hI] at h ⊢; exact h
  | .row b o m z, u, hu, h => by
    simp only [ren, RepV, under, decide_eq_true_eq] at h hu ⊢
    obtain ⟨h1, h2⟩ := hμ b hu
    rw [h1]
    exact ⟨h2, h.2⟩
  | .ptr b o, u, hu, h => by
    simp only [ren, RepV, under, decide_eq_true_eq] at h hu ⊢
    obtain ⟨h1, h2⟩ := hμ b hu
    rw [h1]
    exact ⟨h2, h.2⟩
  | .ag cs, u, hu, h => by
    simp only [ren, RepV, under] at h hu ⊢
    obtain ⟨us, e, h1, hl⟩ := h
    exact ⟨us, e, h1, renL_up hI hμ cs hu hl⟩
  | .tu cs, u, hu, h => by
    simp only [ren, RepV, under] at h hu ⊢
    obtain ⟨us, e, hl⟩ := h
    exact ⟨us, e, renL_up hI hμ cs hu hl⟩
  | .fn f a c, u, hu, h => by
    simp only [ren, RepV, under, Bool.and_eq_true] at h hu ⊢
    obtain ⟨us, vs, e, h1, h2⟩ := h
    exact ⟨us, vs, e, renL_up hI hμ a hu.1 h1, renL_up hI hμ c hu.2 h2⟩
  | .ic t x, u, hu, h => by
    simp only [ren, RepV, under] at h hu ⊢
    obtain ⟨y, e, hy⟩ := h
    exact ⟨y, e, ren_up hI hμ x hu hy⟩
  | .mp b, u, hu, h => by
    simp only [ren, RepV, under, decide_eq_true_eq] at h hu ⊢
    obtain ⟨h1, h2⟩ := hμ b hu
    rw [h1]
    exact ⟨h2, h.2⟩
  | .dead, u, _, _ => by simp only [ren, RepV]
theorem renL_up {L L' : Loc} {w : World} {σ : Nat → Nat} {n : Nat} (hI : L'.I = L.I) (hμ : ∀ b, b < n → L'.μ (σ b) = L.μ b ∧ σ b < L'.nx) : ∀ (ps : List PV) {us : List Value}, underL n ps = true → RepVL P L w ps us → RepVL P L' w (renL σ ps) us
  | [], us, _, h => by simpa only [renL, RepVL] using h
  | p :: ps, us, hu, h => by
    simp only [renL, RepVL, underL, Bool.and_eq_true] at h hu ⊢
    obtain ⟨x, xs, e, hx, hxs⟩ := h
    exact ⟨x, xs, e, ren_up hI hμ p hu.1 hx, renL_up hI hμ ps hu.2 hxs⟩
end

theorem renRow_up {L L' : Loc} {w : World} {σ : Nat → Nat} {n g : Nat} (hI : L'.I = L.I) (hμ : ∀ b, b < n → L'.μ (σ b) = L.μ b ∧ σ b < L'.nx) {x : Row} (hu : underRow n x = true) (h : RowRep P L w g x) : RowRep P L' w g (renRow σ x) := by
  cases x with
  | cells ty cs =>
    obtain ⟨arr, ha, hl, hc⟩ := h
    refine ⟨arr, ha, by rw [renL_length]; exact hl, fun j c hj => ?_⟩
    rw [renL_getElem] at hj
    obtain ⟨c0, hc0, rfl⟩ := map_opt hj
    obtain ⟨v, hv, h1, hr⟩ := hc j c0 hc0
    exact ⟨v, hv, h1, ren_up hI hμ c0 (underL_getElem hu hc0) hr⟩
  | iter t pos => exact h

/-- The numbers behind a call: those that were handed in keep theirs, new ones follow. -/
def lifted (σ : Nat → Nat) (nx NX : Nat) (b : Nat) : Nat := if b < nx then σ b else NX + (b - nx)

theorem CallP.lift {f : FuncId} {ps : List PV} {H H' : Heap} {nx nx' : Nat} {r : PV} (h : CallP P G f ps H nx r H' nx') (σ : Nat → Nat) (NX : Nat) (Hb Hb' : Heap)
    (hσ : ∀ b, b < nx → σ b < NX) (hinj : ∀ b c, b < nx → c < nx → σ b = σ c → b = c) (hle : nx ≤ nx')
    (hH : ∀ q ∈ H, look Hb (σ q.1) = some (renRow σ q.2) ∧ q.1 < nx ∧ underRow nx q.2 = true) (hps : underL nx ps = true)
    (hr : under nx' r = true) (hH' : ∀ q ∈ H', q.1 < nx' ∧ underRow nx' q.2 = true)
    (hb' : ∀ b x, look Hb' b = some x → (∃ b0 x0, look H' b0 = some x0 ∧ b = lifted σ nx NX b0 ∧ x = renRow (lifted σ nx NX) x0) ∨ (look Hb b = some x ∧ ∀ b0 x0, look H b0 = some x0 → σ b0 ≠ b)) :
    CallP P G f (renL σ ps) Hb NX (ren (lifted σ nx NX) r) Hb' (NX + (nx' - nx)) := by
  refine ⟨h.1, fun L w us hok hnx hargs => ?_⟩
  let L0 : Loc := ⟨L.I, fun b => L.μ (σ b), nx⟩
  have hok0 : HeapOK P G L0 H w := by
    refine ⟨hok.lt, fun b x hb => ?_, fun b x hb => ?_, fun b b' x x' hb hb' e => ?_, fun b x hb => (hH _ (mem_of_look hb)).2.1, hok.glob⟩
    · obtain ⟨h1, h2, h3⟩ := hH _ (mem_of_look hb)
      have := hok.rep _ _ h1
      cases x with
      | cells ty cs =>
        obtain ⟨arr, ha, hl, hc⟩ := this
        refine ⟨arr, ha, by rw [renL_length] at hl; exact hl, fun j c hj => ?_⟩
        obtain ⟨v, hv, h1v, hrv⟩ := hc j (ren σ c) (by rw [renL_getElem, hj]; rfl)
        exact ⟨v, hv, h1v, ren_rep c (underL_getElem h3 hj) hrv⟩
      | iter t pos => exact this
    · exact hok.apart _ _ (hH _ (mem_of_look hb)).1
    · exact hinj b b' (hH _ (mem_of_look hb)).2.1 (hH _ (mem_of_look hb')).2.1 (hok.inj _ _ _ _ (hH _ (mem_of_look hb)).1 (hH _ (mem_of_look hb')).1 e)
  have mine0 : ∀ g, Mine L0 H g → Mine L Hb g := fun g ⟨b, x, hb, e⟩ => ⟨σ b, _, (hH _ (mem_of_look hb)).1, e⟩
  refine (h.2 L0 w us hok0 rfl (renL_rep ps hps hargs)).mono ?_
  rintro e w' ⟨v, L1, rfl, hv, hok1, hnx1, hm1, hx1⟩
  let L' : Loc := ⟨L1.I, fun b => if b < NX then L.μ b else L1.μ (b - NX + nx), NX + (nx' - nx)⟩
  have hμ : ∀ b, b < nx' → L'.μ (lifted σ nx NX b) = L1.μ b ∧ lifted σ nx NX b < L'.nx := by
    intro b hb
    unfold lifted
    by_cases hlt : b < nx
    · rw [if_pos hlt]
      have h1 := hσ b hlt
      refine ⟨?_, by show σ b < NX + (nx' - nx); omega⟩
      show (if σ b < NX then L.μ (σ b) else _) = _
      rw [if_pos h1]
      exact (hm1.μ b hlt).symm
    · rw [if_neg hlt]
      refine ⟨?_, by show NX + (b - nx) < NX + (nx' - nx); omega⟩
      show (if NX + (b - nx) < NX then _ else L1.μ (NX + (b - nx) - NX + nx)) = _
      rw [if_neg (by omega)]
      congr 1
      omega
  have hmono : Mono L w L' w' := by
    refine ⟨hm1.keeps, by show L.nx ≤ NX + (nx' - nx); omega, fun b hb => ?_, hm1.size, hm1.shape⟩
    show (if b < NX then L.μ b else _) = _
    rw [if_pos (by omega)]
  have old : ∀ b x, look Hb b = some x → (∀ b0 x0, look H b0 = some x0 → σ b0 ≠ b) → ¬ Mine L0 H (L.μ b) := by
    intro b x hb hne ⟨b0, x0, h0, e⟩
    exact hne b0 x0 h0 (hok.inj _ _ _ _ (hH _ (mem_of_look h0)).1 hb e)
  have oldμ : ∀ b x, look Hb b = some x → L'.μ b = L.μ b := by
    intro b x hb
    have := hok.nx b x hb
    show (if b < NX then L.μ b else _) = _
    rw [if_pos (by omega)]
  have newμ : ∀ b0 x0, look H' b0 = some x0 → L'.μ (lifted σ nx NX b0) = L1.μ b0 := fun b0 x0 h0 => (hμ b0 (hH' _ (mem_of_look h0)).1).1
  refine ⟨v, L', rfl, ren_up (L := L1) (L' := L') rfl hμ r hr hv, ?_, rfl, hmono, ?_⟩
  · refine ⟨hok1.lt, fun b x hb => ?_, fun b x hb hI => ?_, fun b b2 x x2 hb hb2 e => ?_, fun b x hb => ?_, hok1.glob⟩
    · rcases hb' b x hb with ⟨b0, x0, h0, rfl, rfl⟩ | ⟨h0, hne⟩
      · rw [newμ b0 x0 h0]
        exact renRow_up (L := L1) (L' := L') rfl hμ (hH' _ (mem_of_look h0)).2 (hok1.rep b0 x0 h0)
      · rw [oldμ b x h0]
        exact (hok.rep b x h0).keep hmono (hx1.same _ (hok.rep b x h0).lt (old b x h0 hne))
    · rcases hb' b x hb with ⟨b0, x0, h0, rfl, rfl⟩ | ⟨h0, hne⟩
      · rw [newμ b0 x0 h0] at hI
        exact hok1.apart b0 x0 h0 hI
      · rw [oldμ b x h0] at hI
        rcases hx1.new _ hI with h2 | h2 | h2
        · exact hok.apart b x h0 h2
        · have := (hok.rep b x h0).lt; omega
        · exact old b x h0 hne h2
    · rcases hb' b x hb with ⟨b0, x0, h0, rfl, rfl⟩ | ⟨h0, hne⟩ <;> rcases hb' b2 x2 hb2 with ⟨c0, y0, k0, rfl, rfl⟩ | ⟨k0, kne⟩
      · rw [newμ b0 x0 h0, newμ c0 y0 k0] at e
        rw [hok1.inj b0 c0 x0 y0 h0 k0 e]
      · rw [newμ b0 x0 h0, oldμ _ _ k0] at e
        rcases hx1.mine (L.μ b2) ⟨b0, x0, h0, e⟩ with h2 | h2
        · have := (hok.rep b2 x2 k0).lt; omega
        · exact absurd h2 (old b2 x2 k0 kne)
      · rw [oldμ _ _ h0, newμ c0 y0 k0] at e
        rcases hx1.mine (L.μ b) ⟨c0, y0, k0, e.symm⟩ with h2 | h2
        · have := (hok.rep b x h0).lt; omega
        · exact absurd h2 (old b x h0 hne)
      · rw [oldμ _ _ h0, oldμ _ _ k0] at e
        exact hok.inj b b2 x x2 h0 k0 e
    · rcases hb' b x hb with ⟨b0, x0, h0, rfl, rfl⟩ | ⟨h0, hne⟩
      · exact (hμ b0 (hH' _ (mem_of_look h0)).1).2
      · have := hok.nx b x h0
        show b < NX + (nx' - nx)
        omega
  · refine ⟨hx1.size, fun g hg hm => hx1.same g hg (fun h2 => hm (mine0 g h2)), hx1.more, fun g hg => ?_, fun g ⟨b, x, hb, e⟩ => ?_, hx1.shape, hx1.outer⟩
    · rcases hx1.new g hg with h2 | h2 | h2
      · exact .inl h2
      · exact .inr (.inl h2)
      · exact .inr (.inr (mine0 g h2))
    · rcases hb' b x hb with ⟨b0, x0, h0, rfl, rfl⟩ | ⟨h0, hne⟩
      · rw [newμ b0 x0 h0] at e
        rcases hx1.mine g ⟨b0, x0, h0, e⟩ with h2 | h2
        · exact .inl h2
        · exact .inr (mine0 g h2)
      · rw [oldμ _ _ h0] at e
        exact .inr ⟨b, x, h0, e⟩

/-- One row of trees is handed in by its pointer, and other trees; the row changes, nothing else. -/
theorem CallP.lift1 {f : FuncId} {ty : TypeId} {cs cs' : List T} {args : List T} {r : T} (h : CallP P G f (.ptr 0 0 :: args.map .t) [(0, .cells ty (cs.map .t))] 1 (.t r) [(0, .cells ty (cs'.map .t))] 1)
    {b NX : Nat} {Hb : Heap} (hb : look Hb b = some (.cells ty (cs.map .t))) (hlt : b < NX) :
    CallP P G f (.ptr b 0 :: args.map .t) Hb NX (.t r) (upd Hb b (.cells ty (cs'.map .t))) NX := by
  have rt : ∀ (σ : Nat → Nat) (l : List T), renL σ (l.map .t) = l.map .t := by
    intro σ l
    induction l with
    | nil => rfl
    | cons x l ih => simp only [List.map_cons, renL, ren, ih]
  have ut : ∀ (n : Nat) (l : List T), underL n (l.map .t) = true := by
    intro n l
    induction l with
    | nil => rfl
    | cons x l ih => simp only [List.map_cons, underL, under, ih, Bool.and_self]
  have := h.lift (fun _ => b) NX Hb (upd Hb b (.cells ty (cs'.map .t))) (fun _ _ => hlt) (fun x y hx hy _ => by omega) (Nat.le_refl _) (fun q hq => by
    simp only [List.mem_singleton] at hq
    subst hq
    simp only [renRow, rt, underRow, ut]
    exact ⟨hb, by omega, trivial⟩) (by simp only [underL, under, ut]; rfl) rfl (fun q hq => by
    simp only [List.mem_singleton] at hq
    subst hq
    exact ⟨by omega, ut _ _⟩) (fun c x hc => by
    rw [look_upd] at hc
    split at hc
    · rename_i e
      subst e
      left
      refine ⟨0, _, rfl, by simp [lifted], ?_⟩
      rw [hb] at hc
      simp only [Option.map_some, Option.some.injEq] at hc
      simp only [renRow, rt]
      exact hc.symm
    · rename_i e
      right
      refine ⟨hc, fun b0 x0 _ e2 => e e2.symm⟩)
  simp only [renL, ren, rt, Nat.sub_self, Nat.add_zero] at this
  exact this
end
end Go.Abs

namespace Go.Abs
set_option linter.unusedSimpArgs false
set_option linter.unusedVariables false
open Go

abbrev Memo := List (Nat × List T × T)
def Memo.get (m : Memo) (f : Nat) (args : List T) : Option T := match m with
  | [] => none
  | (g, as', r) :: rest => if g = f then (if eqTs as' args then some r else Memo.get rest f args) else Memo.get rest f args
def MemoOK (P : Program) (G : Globs) (m : Memo) : Prop := ∀ q ∈ m, CallT P G q.1 q.2.1 (· = q.2.2)
theorem MemoOK.nil {P : Program} {G : Globs} : MemoOK P G [] := fun _ h => by cases h
theorem MemoOK.cons {P : Program} {G : Globs} {m : Memo} {f : Nat} {as' : List T} {r : T} (h : CallT P G f as' (· = r)) (hm : MemoOK P G m) : MemoOK P G ((f, as', r) :: m) := fun q hq => by
  rcases List.mem_cons.1 hq with rfl | hq
  · exact h
  · exact hm q hq
theorem Memo.get_sound {P : Program} {G : Globs} : ∀ {m : Memo} {f : Nat} {args : List T} {r : T}, MemoOK P G m → m.get f args = some r → CallT P G f args (· = r)
  | [], f, args, r, _, h => by cases h
  | (g, as', r0) :: rest, f, args, r, hm, h => by
    have hr : MemoOK P G rest := fun q hq => hm q (List.mem_cons_of_mem _ hq)
    simp only [Memo.get] at h
    split at h
    · rename_i hg
      split at h
      · rename_i ha
        injection h with h
        subst h; subst hg
        rw [← eqTs_eq _ _ ha]
        exact hm (g, as', r0) List.mem_cons_self
      · exact Memo.get_sound hr h
    · exact Memo.get_sound hr h

def callM' (tab : List (Nat × FnM)) (memo : Memo) (rounds : Nat) : Nat → Oracle
  | 0 => ⟨memo.get, fun _ _ _ _ => none⟩
  | n + 1 => ⟨fun f args => match memo.get f args with
      | some r => some r
      | none => callNT tab rounds (callM' tab memo rounds n) f args, callNH tab rounds (callM' tab memo rounds n)⟩
theorem callM'_sound {P : Program} {G : Globs} (hm : P.follows .mixedOrders = true) {tab : List (Nat × FnM)} (ht : TabOK P G tab) {memo : Memo} (hme : MemoOK P G memo) (rounds : Nat) : ∀ n, (callM' tab memo rounds n).Sound P G
  | 0 => ⟨fun _ _ _ h => Memo.get_sound hme h, fun _ _ _ _ _ _ _ h => (by cases h), fun _ _ _ _ _ _ _ h => (by cases h)⟩
  | n + 1 => ⟨fun f args r h => by
      simp only [callM'] at h
      split at h
      · rename_i r' hr
        injection h with h
        subst h
        exact Memo.get_sound hme hr
      · exact callNT_sound hm ht rounds (callM'_sound hm ht hme rounds n) f args r h,
      fun f ps H nx r H' nx' h => (callNH_sound hm ht rounds (callM'_sound hm ht hme rounds n) f ps H nx r H' nx' h).1,
      fun f ps H nx r H' nx' h _ => (callNH_sound hm ht rounds (callM'_sound hm ht hme rounds n) f ps H nx r H' nx' h).2⟩
end Go.Abs

namespace Go.Abs
set_option linter.unusedSimpArgs false
set_option linter.unusedVariables false
open Go

/-- How data of a type are trees. -/
structure Ty (α : Type) where
  is : T → α → Prop
  uniq : ∀ t a b, is t a → is t b → a = b

noncomputable def Ty.dec {α : Type} (τ : Ty α) (t : T) : Option α :=
  open Classical in if h : ∃ a, τ.is t a then some h.choose else none

theorem Ty.dec_is {α : Type} {τ : Ty α} {t : T} {a : α} (h : τ.is t a) : τ.dec t = some a := by
  unfold Ty.dec
  have hx : ∃ a, τ.is t a := ⟨a, h⟩
  rw [dif_pos hx]
  rw [τ.uniq t _ _ hx.choose_spec h]

theorem Ty.is_dec {α : Type} {τ : Ty α} {t : T} {a : α} (h : τ.dec t = some a) : τ.is t a := by
  unfold Ty.dec at h
  split at h
  · rename_i hx
    injection h with h
    subst h
    exact hx.choose_spec
  · cases h

abbrev iv (n : Int) : T := .v (.int .i64 n)
abbrev bv (b : Bool) : T := .v (.bool b)
abbrev sv (s : ByteArray) : T := .v (.string s)
abbrev nilS : T := .v (.slice none 0 0)

def tRaw : Ty T := ⟨fun t x => t = x, fun t a b h h' => h.symm.trans h'⟩
def tInt : Ty Int := ⟨fun t n => t = iv n, fun t a b h h' => by rw [h] at h'; injection h' with h'; injection h'⟩
def tBool : Ty Bool := ⟨fun t n => t = bv n, fun t a b h h' => by rw [h] at h'; injection h' with h'; injection h'⟩
def tStr : Ty ByteArray := ⟨fun t n => t = sv n, fun t a b h h' => by rw [h] at h'; injection h' with h'; injection h'⟩

/-- How the cells of a struct are told. -/
structure Enc (α : Type) where
  z : Nat
  enc : α → List T
  len : ∀ a, (enc a).length = z
  pos : 0 < z
  inj : ∀ a b, enc a = enc b → a = b

def slT {α : Type} (e : Enc α) (l : List α) : T := .sl l.length (l.flatMap e.enc)

/-- A slice, or nil. -/
def IsS {α : Type} (e : Enc α) (t : T) (l : List α) : Prop := (t = nilS ∧ l = []) ∨ t = slT e l

theorem flatMap_inj {α : Type} (e : Enc α) : ∀ (l m : List α), l.length = m.length → l.flatMap e.enc = m.flatMap e.enc → l = m
  | [], [], _, _ => rfl
  | [], _ :: _, h, _ => by simp at h
  | _ :: _, [], h, _ => by simp at h
  | a :: l, b :: m, h, he => by
    simp only [List.flatMap_cons] at he
    have h1 := List.append_inj he (by rw [e.len, e.len])
    rw [e.inj a b h1.1, flatMap_inj e l m (by simpa using h) h1.2]

def tSl {α : Type} (e : Enc α) : Ty (List α) := ⟨IsS e, fun t a b h h' => by
  rcases h with ⟨rfl, rfl⟩ | rfl
  · rcases h' with ⟨_, rfl⟩ | h'
    · rfl
    · cases h'
  · rcases h' with ⟨h', _⟩ | h'
    · cases h'
    · unfold slT at h'
      injection h' with h1 h2
      exact flatMap_inj e a b h1 h2⟩

/-- A struct value. -/
def tAg {α : Type} (e : Enc α) : Ty α := ⟨fun t a => t = .ag (e.enc a), fun t a b h h' => by rw [h] at h'; injection h' with h'; exact e.inj a b h'⟩

def eInt : Enc Int := ⟨1, fun n => [iv n], fun _ => rfl, by omega, fun a b h => by injection h with h; injection h with h; injection h⟩
def eStr : Enc ByteArray := ⟨1, fun n => [sv n], fun _ => rfl, by omega, fun a b h => by injection h with h; injection h with h; injection h⟩
def eBool : Enc Bool := ⟨1, fun n => [bv n], fun _ => rfl, by omega, fun a b h => by injection h with h; injection h with h; injection h⟩
/-- Slices of whatever is one cell. -/
def eRaw : Enc T := ⟨1, fun n => [n], fun _ => rfl, by omega, fun a b h => by injection h⟩

section
variable {α : Type} {e : Enc α} {t : T} {l : List α}

theorem IsS.len (h : IsS e t l) : lenslM (.t t) = some (.t (iv (l.length : Int))) := by
  rcases h with ⟨rfl, rfl⟩ | rfl <;> rfl

/-- What lies behind an element. -/
def rest (e : Enc α) (l : List α) (i : Nat) : List T := (l.drop (i + 1)).flatMap e.enc

theorem flat_drop (e : Enc α) : ∀ (l : List α) (i : Nat) (x : α), l[i]? = some x → (l.flatMap e.enc).drop (i * e.z) = e.enc x ++ rest e l i
  | [], i, x, h => by simp at h
  | a :: l, 0, x, h => by
    simp at h; subst h
    simp [rest]
  | a :: l, i + 1, x, h => by
    have ih := flat_drop e l i x (by simpa using h)
    rw [List.flatMap_cons, Nat.succ_mul, Nat.add_comm, ← List.drop_drop, List.drop_left' (e.len a), ih]
    simp [rest]

theorem IsS.iaddr (h : IsS e t l) {i : Nat} {x : α} (hx : l[i]? = some x) (k : IntKind) : iaddrM e.z (.t t) (.t (.v (.int k (i : Int)))) = some (.t (.pt (e.enc x ++ rest e l i))) := by
  have hi : i < l.length := (List.getElem?_eq_some_iff.1 hx).1
  rcases h with ⟨rfl, rfl⟩ | rfl
  · simp at hi
  · simp only [iaddrM, slT]
    rw [if_pos ⟨by omega, by omega⟩, Int.toNat_natCast, flat_drop e l i x hx]

theorem IsS.nil : IsS e nilS [] := .inl ⟨rfl, rfl⟩
theorem IsS.mk (l : List α) : IsS e (slT e l) l := .inr rfl
end

/-! Contracts. -/
noncomputable def g1 {α : Type} (τ : Ty α) (f : α → Option T) : List T → Option T
  | [a] => (τ.dec a).bind f
  | _ => none
noncomputable def g2 {α β : Type} (τ : Ty α) (σ : Ty β) (f : α → β → Option T) : List T → Option T
  | [a, b] => (τ.dec a).bind fun x => (σ.dec b).bind fun y => f x y
  | _ => none
noncomputable def g3 {α β γ : Type} (τ : Ty α) (σ : Ty β) (ρ : Ty γ) (f : α → β → γ → Option T) : List T → Option T
  | [a, b, c] => (τ.dec a).bind fun x => (σ.dec b).bind fun y => (ρ.dec c).bind fun z => f x y z
  | _ => none
noncomputable def g4 {α β γ δ : Type} (τ : Ty α) (σ : Ty β) (ρ : Ty γ) (π : Ty δ) (f : α → β → γ → δ → Option T) : List T → Option T
  | [a, b, c, d] => (τ.dec a).bind fun x => (σ.dec b).bind fun y => (ρ.dec c).bind fun z => (π.dec d).bind fun u => f x y z u
  | _ => none

section
variable {P : Program} {G : Globs} {F : FuncId} {α β γ δ : Type} {τ : Ty α} {σ : Ty β} {ρ : Ty γ} {π : Ty δ}

theorem g1_ok {f : α → Option T} (h : ∀ a x r, τ.is a x → f x = some r → CallT P G F [a] (· = r)) : GOK P G F (g1 τ f) := by
  intro args r e
  unfold g1 at e
  split at e
  · obtain ⟨x, hx, e⟩ := Option.bind_eq_some_iff.1 e
    exact h _ x r (Ty.is_dec hx) e
  · cases e
theorem g1_eq {f : α → Option T} {a : T} {x : α} (h : τ.is a x) : g1 τ f [a] = f x := by
  simp only [g1, Ty.dec_is h, Option.bind_some]
theorem g2_ok {f : α → β → Option T} (h : ∀ a b x y r, τ.is a x → σ.is b y → f x y = some r → CallT P G F [a, b] (· = r)) : GOK P G F (g2 τ σ f) := by
  intro args r e
  unfold g2 at e
  split at e
  · obtain ⟨x, hx, e⟩ := Option.bind_eq_some_iff.1 e
    obtain ⟨y, hy, e⟩ := Option.bind_eq_some_iff.1 e
    exact h _ _ x y r (Ty.is_dec hx) (Ty.is_dec hy) e
  · cases e
theorem g2_eq {f : α → β → Option T} {a b : T} {x : α} {y : β} (h : τ.is a x) (h' : σ.is b y) : g2 τ σ f [a, b] = f x y := by
  simp only [g2, Ty.dec_is h, Ty.dec_is h', Option.bind_some]
theorem g3_ok {f : α → β → γ → Option T} (h : ∀ a b c x y z r, τ.is a x → σ.is b y → ρ.is c z → f x y z = some r → CallT P G F [a, b, c] (· = r)) : GOK P G F (g3 τ σ ρ f) := by
  intro args r e
  unfold g3 at e
  split at e
  · obtain ⟨x, hx, e⟩ := Option.bind_eq_some_iff.1 e
    obtain ⟨y, hy, e⟩ := Option.bind_eq_some_iff.1 e
    obtain ⟨z, hz, e⟩ := Option.bind_eq_some_iff.1 e
    exact h _ _ _ x y z r (Ty.is_dec hx) (Ty.is_dec hy) (Ty.is_dec hz) e
  · cases e
theorem g3_eq {f : α → β → γ → Option T} {a b c : T} {x : α} {y : β} {z : γ} (h : τ.is a x) (h' : σ.is b y) (h'' : ρ.is c z) : g3 τ σ ρ f [a, b, c] = f x y z := by
  simp only [g3, Ty.dec_is h, Ty.dec_is h', Ty.dec_is h'', Option.bind_some]
theorem g4_ok {f : α → β → γ → δ → Option T} (h : ∀ a b c d x y z u r, τ.is a x → σ.is b y → ρ.is c z → π.is d u → f x y z u = some r → CallT P G F [a, b, c, d] (· = r)) : GOK P G F (g4 τ σ ρ π f) := by
  intro args r e
  unfold g4 at e
  split at e
  · obtain ⟨x, hx, e⟩ := Option.bind_eq_some_iff.1 e
    obtain ⟨y, hy, e⟩ := Option.bind_eq_some_iff.1 e
    obtain ⟨z, hz, e⟩ := Option.bind_eq_some_iff.1 e
    obtain ⟨u, hu, e⟩ := Option.bind_eq_some_iff.1 e
    exact h _ _ _ _ x y z u r (Ty.is_dec hx) (Ty.is_dec hy) (Ty.is_dec hz) (Ty.is_dec hu) e
  · cases e
theorem g4_eq {f : α → β → γ → δ → Option T} {a b c d : T} {x : α} {y : β} {z : γ} {u : δ} (h : τ.is a x) (h' : σ.is b y) (h'' : ρ.is c z) (h3 : π.is d u) : g4 τ σ ρ π f [a, b, c, d] = f x y z u := by
  simp only [g4, Ty.dec_is h, Ty.dec_is h', Ty.dec_is h'', Ty.dec_is h3, Option.bind_some]
end

/-! A slice that is appended to, in rows: its number may be any. -/
section
variable {α : Type}
def rowP (e : Enc α) (b : Nat) : List α → PV
  | [] => .t nilS
  | l => .row b 0 l.length e.z
def rowH (e : Enc α) (ty b : Nat) : List α → Heap
  | [] => []
  | l => [(b, .cells ty ((l.flatMap e.enc).map .t))]
/-- What such a slice is as a tree. -/
def treeS (e : Enc α) : List α → T
  | [] => nilS
  | l => slT e l
def lentS (b : Nat) : List α → List Nat
  | [] => []
  | _ => [b]

theorem IsS.tree (e : Enc α) (l : List α) : IsS e (treeS e l) l := by
  cases l with
  | nil => exact .inl ⟨rfl, rfl⟩
  | cons x r => exact .inr rfl

theorem length_flat (e : Enc α) : ∀ l : List α, (l.flatMap e.enc).length = l.length * e.z
  | [] => by simp
  | a :: l => by rw [List.flatMap_cons, List.length_append, e.len, length_flat e l, List.length_cons, Nat.succ_mul, Nat.add_comm]

theorem toT_rowP (e : Enc α) (ty b : Nat) (l : List α) (H : Heap) : toT (rowH e ty b l ++ H) (rowP e b l) = some (treeS e l, lentS b l) := by
  cases l with
  | nil => rfl
  | cons x r =>
    have hl : (((x :: r).flatMap e.enc).map PV.t).length = (x :: r).length * e.z := by rw [List.length_map, length_flat]
    have tk : List.take ((x :: r).length * e.z) (((x :: r).flatMap e.enc).map PV.t) = ((x :: r).flatMap e.enc).map PV.t := List.take_of_length_le (by rw [hl]; exact Nat.le_refl _)
    simp only [rowH, rowP, List.cons_append, toT, look_cons, if_true, List.drop_zero, Nat.zero_add, hl, Nat.le_refl, tk, allT_map_t, Option.map_some]
    rfl

theorem ren_rowP (e : Enc α) (σ : Nat → Nat) (b : Nat) (l : List α) : ren σ (rowP e b l) = rowP e (σ b) l := by cases l <;> rfl
theorem under_rowP (e : Enc α) (n b : Nat) (l : List α) (h : b < n) : under n (rowP e b l) = true := by
  cases l with
  | nil => rfl
  | cons x r => simp [rowP, under, h]
end
end Go.Abs

namespace Go.Abs
set_option linter.unusedSimpArgs false
set_option linter.unusedVariables false
open Go

section
variable {α : Type} {P : Program} {G : Globs} {B : Nat}

def rowOf (e : Enc α) (ty : Nat) (l : List α) : Row := .cells ty ((l.flatMap e.enc).map .t)

/-- Row b holds l, if there is anything to hold. -/
def RowAt (e : Enc α) (ty : Nat) (H : Heap) (b : Nat) (l : List α) : Prop := l = [] ∨ look H b = some (rowOf e ty l)

theorem RowAt.nil (e : Enc α) (ty : Nat) (H : Heap) (b : Nat) : RowAt e ty H b [] := .inl rfl
theorem RowAt.cons {e : Enc α} {ty : Nat} {H : Heap} {b : Nat} {l : List α} (h : RowAt e ty H b l) {k : Nat} {r : Row} (hk : k ≠ b) : RowAt e ty ((k, r) :: H) b l :=
  h.imp id fun h => by rw [look_cons, if_neg hk]; exact h
theorem RowAt.head (e : Enc α) (ty : Nat) (H : Heap) (b : Nat) (l : List α) : RowAt e ty (rowH e ty b l ++ H) b l := by
  cases l with
  | nil => exact .inl rfl
  | cons x r => right; simp [rowH, rowOf]

theorem RowAt.head' (e : Enc α) (ty b : Nat) (l : List α) : RowAt e ty (rowH e ty b l) b l := by
  have h := RowAt.head e ty [] b l
  rwa [List.append_nil] at h

/-- The rows behind an append. -/
def appH (e : Enc α) (ty : Nat) (H : Heap) (nx b : Nat) (l m : List α) : Heap :=
  if (l ++ m).isEmpty then H else (nx, rowOf e ty (l ++ m)) :: (if l.isEmpty then H else rem H b)
def appN (nx : Nat) (l m : List α) : Nat := if (l ++ m).isEmpty then nx else nx + 1

theorem app_row {e : Enc α} {ty by' : Nat} {H : Heap} {nx b : Nat} {l m : List α} {src : PV} (h : RowAt e ty H b l) (hs : srcP H e.z src = some (m.length, (m.flatMap e.enc).map .t))
    (hb : (l.length + m.length) * by' ≤ 140737488355328) (hb2 : l.length + m.length ≤ 9223372036854775807) :
    appM ty e.z by' H nx (rowP e b l) src = some (rowP e nx (l ++ m), appH e ty H nx b l m, appN nx l m) := by
  cases l with
  | nil =>
    cases m with
    | nil => simp [appM, hs, rowP, appH, appN]
    | cons y m =>
      simp only [List.length_nil, Nat.zero_add] at hb hb2
      have h0 : ¬ (y :: m).length = 0 := by simp
      simp only [appM, hs, rowP, List.nil_append, appH, appN, List.isEmpty_cons, List.isEmpty_nil, Bool.false_eq_true, if_false, if_true, and_self, h0, hb, hb2, rowOf]
  | cons x l =>
    rcases h with h | h
    · cases h
    · have hl : (((x :: l).flatMap e.enc).map PV.t).length = (x :: l).length * e.z := by rw [List.length_map, length_flat]
      simp only [appM, hs, rowP, h, rowOf, hl, true_and, if_pos (And.intro hb hb2), List.cons_append, appH, appN, List.isEmpty_cons, Bool.false_eq_true, if_false]
      simp
      omega

theorem look_appH {e : Enc α} {ty : Nat} {H : Heap} {nx b : Nat} {l m : List α} {c : Nat} (hc : c ≠ nx) (hb : c ≠ b) : look (appH e ty H nx b l m) c = look H c := by
  unfold appH
  split
  · rfl
  · rw [look_cons, if_neg (Ne.symm hc)]
    split
    · rfl
    · rw [look_rem, if_neg hb]

theorem RowAt.app {e : Enc α} {ty : Nat} {H : Heap} {nx b : Nat} {l m : List α} : RowAt e ty (appH e ty H nx b l m) nx (l ++ m) := by
  unfold appH
  split
  · rename_i h; left; simpa using h
  · right; rw [look_cons, if_pos rfl]

theorem RowAt.other {β : Type} {e : Enc α} {e' : Enc β} {ty ty' : Nat} {H : Heap} {nx b c : Nat} {l m : List α} {k : List β} (h : RowAt e' ty' H c k) (hc : c ≠ nx) (hb : c ≠ b) : RowAt e' ty' (appH e ty H nx b l m) c k :=
  h.imp id fun h => by rw [look_appH hc hb]; exact h

theorem RowAt.toT {e : Enc α} {ty : Nat} {H : Heap} {b : Nat} {l : List α} (h : RowAt e ty H b l) : toT H (rowP e b l) = some (treeS e l, lentS b l) := by
  cases l with
  | nil => rfl
  | cons x r =>
    rcases h with h | h
    · cases h
    · have hl : (((x :: r).flatMap e.enc).map PV.t).length = (x :: r).length * e.z := by rw [List.length_map, length_flat]
      have tk : List.take ((x :: r).length * e.z) (((x :: r).flatMap e.enc).map PV.t) = ((x :: r).flatMap e.enc).map PV.t := List.take_of_length_le (by rw [hl]; exact Nat.le_refl _)
      simp only [rowP, Abs.toT, h, rowOf, List.drop_zero, Nat.zero_add, hl, Nat.le_refl, if_true, tk, allT_map_t, Option.map_some]
      rfl

theorem len_rowP (e : Enc α) (b : Nat) (l : List α) : lenslM (rowP e b l) = some (.t (iv (l.length : Int))) := by cases l <;> rfl

/-- One element behind a row. -/
theorem src_one {e : Enc α} {H : Heap} {b ty : Nat} (x : α) (h : look H b = some (.cells ty ((e.enc x).map .t))) : srcP H e.z (.row b 0 1 e.z) = some ([x].length, ([x].flatMap e.enc).map .t) := by
  have hl : ((e.enc x).map PV.t).length = e.z := by rw [List.length_map, e.len]
  have tk : List.take e.z ((e.enc x).map PV.t) = (e.enc x).map PV.t := List.take_of_length_le (by rw [hl]; exact Nat.le_refl _)
  simp [srcP, h, e.len, tk]

theorem src_tree {e : Enc α} {H : Heap} {t : T} {l : List α} (h : IsS e t l) : srcP H e.z (.t t) = some (l.length, (l.flatMap e.enc).map .t) := by
  rcases h with ⟨rfl, rfl⟩ | rfl
  · rfl
  · simp only [srcP, slT, length_flat, if_true]

/-! Loop heads: one row, two rows, under numbers of their own. -/

/-- Rows as they are told at a loop's head. -/
theorem renRow_rowOf (σ : Nat → Nat) (e : Enc α) (ty : Nat) (l : List α) : renRow σ (rowOf e ty l) = rowOf e ty l := by
  have : ∀ m : List T, renL σ (m.map .t) = m.map .t := by
    intro m
    induction m with
    | nil => rfl
    | cons x m ih => simp only [List.map_cons, renL, ren, ih]
  simp only [rowOf, renRow, this]
theorem underRow_rowOf (n : Nat) (e : Enc α) (ty : Nat) (l : List α) : underRow n (rowOf e ty l) = true := by
  have : ∀ m : List T, underL n (m.map .t) = true := by
    intro m
    induction m with
    | nil => rfl
    | cons x m ih => simp only [List.map_cons, underL, under, ih, Bool.and_self]
  simp only [rowOf, underRow, this]

theorem mem_rowH {e : Enc α} {ty b : Nat} {l : List α} {q : Nat × Row} (h : q ∈ rowH e ty b l) : l ≠ [] ∧ q = (b, rowOf e ty l) := by
  cases l with
  | nil => simp [rowH] at h
  | cons x r => simp only [rowH, List.mem_singleton] at h; exact ⟨by simp, h⟩

/-- To a loop's head with one row, whose number there is b and was k. -/
theorem sub_row1 {e : Enc α} {ty b k nx nx' n : Nat} {l : List α} {env env' : List (Nat × PV)} {H : Heap} (h : RowAt e ty H k l) (hb : b < nx') (hB : B ≤ b)
    (he : ∀ q ∈ env', look env q.1 = some (ren (fun c => if c = b then k else c) q.2) ∧ under nx' q.2 = true) :
    Sub P G B ⟨env, H, nx, n⟩ ⟨env', rowH e ty b l, nx', n⟩ := by
  refine sub_ren (fun c => if c = b then k else c) rfl (by show B ≤ nx'; omega) (fun c hc => by show (if c = b then k else c) = c; rw [if_neg (by omega)]) he (fun q hq => ?_) (fun q hq q' hq' _ => ?_)
  · obtain ⟨hne, rfl⟩ := mem_rowH hq
    simp only [if_true, renRow_rowOf, underRow_rowOf]
    rcases h with h | h
    · exact absurd h hne
    · exact ⟨h, hb, trivial⟩
  · obtain ⟨_, rfl⟩ := mem_rowH hq
    obtain ⟨_, rfl⟩ := mem_rowH hq'
    rfl

theorem sub_row2 {β : Type} {e : Enc α} {e' : Enc β} {ty ty' b b' k k' nx nx' n : Nat} {l : List α} {l' : List β} {env env' : List (Nat × PV)} {H : Heap} (h : RowAt e ty H k l) (h' : RowAt e' ty' H k' l') (hb : b < nx') (hb' : b' < nx') (hB : B ≤ b) (hB' : B ≤ b')
    (hne : b ≠ b') (hk : k ≠ k') (he : ∀ q ∈ env', look env q.1 = some (ren (fun c => if c = b then k else if c = b' then k' else c) q.2) ∧ under nx' q.2 = true) :
    Sub P G B ⟨env, H, nx, n⟩ ⟨env', rowH e ty b l ++ rowH e' ty' b' l', nx', n⟩ := by
  refine sub_ren (fun c => if c = b then k else if c = b' then k' else c) rfl (by show B ≤ nx'; omega) (fun c hc => by show (if c = b then k else if c = b' then k' else c) = c; rw [if_neg (by omega), if_neg (by omega)]) he (fun q hq => ?_) (fun q hq q' hq' hx => ?_)
  · rcases List.mem_append.1 hq with hq | hq
    · obtain ⟨hn, rfl⟩ := mem_rowH hq
      simp only [if_true, renRow_rowOf, underRow_rowOf]
      rcases h with h | h
      · exact absurd h hn
      · exact ⟨h, hb, trivial⟩
    · obtain ⟨hn, rfl⟩ := mem_rowH hq
      simp only [if_neg (Ne.symm hne), if_true, renRow_rowOf, underRow_rowOf]
      rcases h' with h' | h'
      · exact absurd h' hn
      · exact ⟨h', hb', trivial⟩
  · rcases List.mem_append.1 hq with hq | hq <;> rcases List.mem_append.1 hq' with hq' | hq'
    · obtain ⟨_, rfl⟩ := mem_rowH hq
      obtain ⟨_, rfl⟩ := mem_rowH hq'
      rfl
    · obtain ⟨_, rfl⟩ := mem_rowH hq
      obtain ⟨_, rfl⟩ := mem_rowH hq'
      simp only [if_true, if_neg (Ne.symm hne)] at hx
      exact absurd hx hk
    · obtain ⟨_, rfl⟩ := mem_rowH hq
      obtain ⟨_, rfl⟩ := mem_rowH hq'
      simp only [if_true, if_neg (Ne.symm hne)] at hx
      exact absurd hx.symm hk
    · obtain ⟨_, rfl⟩ := mem_rowH hq
      obtain ⟨_, rfl⟩ := mem_rowH hq'
      rfl

/-- To a loop's head without rows. -/
theorem sub_row0 {nx nx' n : Nat} {env env' : List (Nat × PV)} {H : Heap} (hB : B ≤ nx') (he : ∀ q ∈ env', look env q.1 = some q.2 ∧ under 0 q.2 = true) :
    Sub P G B ⟨env, H, nx, n⟩ ⟨env', [], nx', n⟩ := by
  have key : ∀ (p : PV), under 0 p = true → ren id p = p ∧ under nx' p = true := by
    intro p hp
    constructor
    · have : (∀ p : PV, ren id p = p) ∧ (∀ ps : List PV, renL id ps = ps) := by
        constructor
        · intro p
          exact PV.rec (motive_1 := fun p => ren id p = p) (motive_2 := fun ps => renL id ps = ps) (fun x => rfl) (fun b o n z => rfl) (fun b o => rfl) (fun cs ih => by simp only [ren, ih]) (fun cs ih => by simp only [ren, ih])
            (fun f a c ih1 ih2 => by simp only [ren, ih1, ih2]) (fun t x ih => by simp only [ren, ih]) (fun b => rfl) rfl rfl (fun p ps h1 h2 => by simp only [renL, h1, h2]) p
        · intro ps
          exact PV.rec_1 (motive_1 := fun p => ren id p = p) (motive_2 := fun ps => renL id ps = ps) (fun x => rfl) (fun b o n z => rfl) (fun b o => rfl) (fun cs ih => by simp only [ren, ih]) (fun cs ih => by simp only [ren, ih])
            (fun f a c ih1 ih2 => by simp only [ren, ih1, ih2]) (fun t x ih => by simp only [ren, ih]) (fun b => rfl) rfl rfl (fun p ps h1 h2 => by simp only [renL, h1, h2]) ps
      exact this.1 p
    · exact (PV.rec (motive_1 := fun p => under 0 p = true → under nx' p = true) (motive_2 := fun ps => underL 0 ps = true → underL nx' ps = true) (fun x _ => rfl) (fun b o n z h => by simp [under] at h) (fun b o h => by simp [under] at h)
        (fun cs ih h => by simp only [under] at h ⊢; exact ih h) (fun cs ih h => by simp only [under] at h ⊢; exact ih h) (fun f a c ih1 ih2 h => by simp only [under, Bool.and_eq_true] at h ⊢; exact ⟨ih1 h.1, ih2 h.2⟩)
        (fun t x ih h => by simp only [under] at h ⊢; exact ih h) (fun b h => by simp [under] at h) (fun _ => rfl) (fun _ => rfl) (fun p ps h1 h2 h => by simp only [underL, Bool.and_eq_true] at h ⊢; exact ⟨h1 h.1, h2 h.2⟩) p) hp
  refine sub_ren id rfl hB (fun _ _ => rfl) (fun q hq => ?_) (fun q hq => by simp at hq) (fun q hq => by simp at hq)
  obtain ⟨h1, h2⟩ := he q hq
  obtain ⟨h3, h4⟩ := key q.2 h2
  rw [h3]
  exact ⟨h1, h4⟩
end
end Go.Abs

namespace Go.Abs
set_option linter.unusedSimpArgs false
set_option linter.unusedVariables false
open Go

theorem toList_loop (bs : ByteArray) : ∀ (n i : Nat) (r : List UInt8), bs.size - i = n → ByteArray.toList.loop bs i r = r.reverse ++ bs.data.toList.drop i
  | 0, i, r, h => by
    unfold ByteArray.toList.loop
    have hi : ¬ i < bs.size := by omega
    have hs : bs.data.toList.length = bs.size := rfl
    rw [if_neg hi, List.drop_eq_nil_of_le (by omega)]
    simp
  | n + 1, i, r, h => by
    unfold ByteArray.toList.loop
    have hi : i < bs.size := by omega
    rw [if_pos hi, toList_loop bs n (i + 1) _ (by omega)]
    have hs : bs.data.toList.length = bs.size := rfl
    have hl : i < bs.data.toList.length := by omega
    rw [List.drop_eq_getElem_cons hl, List.reverse_cons, List.append_assoc]
    congr 2
    have hl' : i < bs.data.size := by simpa using hl
    show bs.data[i]! :: _ = _
    rw [getElem!_pos bs.data i hl']
    rfl

theorem toList_data (bs : ByteArray) : bs.toList = bs.data.toList := by
  unfold ByteArray.toList
  rw [toList_loop bs bs.size 0 [] (by omega)]
  simp

theorem toList_inj {a b : ByteArray} (h : a.toList = b.toList) : a = b := by
  rw [toList_data, toList_data] at h
  cases a; cases b
  congr
  exact Array.toList_inj.1 h

theorem str_beq (a b : ByteArray) : (a.toList == b.toList) = decide (a = b) := by
  by_cases h : a = b
  · subst h; simp
  · rw [decide_eq_false h, beq_eq_false_iff_ne]
    exact fun e => h (toList_inj e)

theorem size_toList (a : ByteArray) : a.toList.length = a.size := by rw [toList_data]; rfl

/-- The order of strings. -/
def lessS (a b : ByteArray) : Bool := Op.bytesLess a.toList b.toList
theorem less_def (a b : ByteArray) : Op.bytesLess a.toList b.toList = lessS a b := rfl

@[simp] theorem evalK_slss {Φ : Oracle} {H : Heap} {nx : Nat} (isB : Bool) (nk : Option NK) (a b : ByteArray) : evalK Φ H nx (.bin isB .lss nk) [.t (.v (.string a)), .t (.v (.string b))] = some (.t (.v (.bool (lessS a b))), H, nx) := rfl
theorem evalK_sadd {Φ : Oracle} {H : Heap} {nx : Nat} (isB : Bool) (nk : Option NK) (a b : ByteArray) (h : a.size + b.size ≤ 9223372036854775807) : evalK Φ H nx (.bin isB .add nk) [.t (.v (.string a)), .t (.v (.string b))] = some (.t (.v (.string (a ++ b))), H, nx) := by simp [evalK, binM, h]

theorem bl_irrefl : ∀ l : List UInt8, Op.bytesLess l l = false
  | [] => rfl
  | x :: l => by
    have := bl_irrefl l
    simp [Op.bytesLess, this]

theorem bl_trans : ∀ {a b c : List UInt8}, Op.bytesLess a b = true → Op.bytesLess b c = true → Op.bytesLess a c = true
  | [], [], c, h, _ => by simp [Op.bytesLess] at h
  | [], _ :: _, [], _, h => by simp [Op.bytesLess] at h
  | [], _ :: _, _ :: _, _, _ => by simp [Op.bytesLess]
  | _ :: _, [], _, h, _ => by simp [Op.bytesLess] at h
  | _ :: _, _ :: _, [], _, h => by simp [Op.bytesLess] at h
  | x :: a, y :: b, z :: c, h, h' => by
    simp only [Op.bytesLess, Bool.or_eq_true, Bool.and_eq_true, decide_eq_true_eq, beq_iff_eq] at h h' ⊢
    rcases h with h | ⟨rfl, h⟩
    · rcases h' with h' | ⟨rfl, h'⟩
      · exact .inl (UInt8.lt_trans h h')
      · exact .inl h
    · rcases h' with h' | ⟨rfl, h'⟩
      · exact .inl h'
      · exact .inr ⟨rfl, bl_trans h h'⟩

theorem bl_total : ∀ (a b : List UInt8), Op.bytesLess a b = false → a ≠ b → Op.bytesLess b a = true
  | [], [], _, h => absurd rfl h
  | [], _ :: _, h, _ => by simp [Op.bytesLess] at h
  | _ :: _, [], _, _ => by simp [Op.bytesLess]
  | x :: a, y :: b, h, hne => by
    simp only [Op.bytesLess, Bool.or_eq_false_iff, Bool.and_eq_false_iff, decide_eq_false_iff_not, beq_eq_false_iff_ne, Bool.or_eq_true, Bool.and_eq_true, decide_eq_true_eq, beq_iff_eq] at h ⊢
    by_cases e : x = y
    · subst e
      rcases h.2 with h2 | h2
      · exact absurd rfl h2
      · exact .inr ⟨rfl, bl_total a b h2 (fun e => hne (by rw [e]))⟩
    · left
      rcases UInt8.lt_or_lt_of_ne e with h1 | h1
      · exact absurd h1 h.1
      · exact h1

theorem less_irrefl (a : ByteArray) : lessS a a = false := bl_irrefl _
theorem less_trans {a b c : ByteArray} (h : lessS a b = true) (h' : lessS b c = true) : lessS a c = true := bl_trans h h'
theorem less_total {a b : ByteArray} (h : lessS a b = false) (hne : a ≠ b) : lessS b a = true := bl_total _ _ h fun e => hne (toList_inj e)
theorem less_asymm {a b : ByteArray} (h : lessS a b = true) : lessS b a = false := by
  cases h' : lessS b a with
  | false => rfl
  | true => rw [← less_irrefl a]; exact (less_trans h h').symm

/-- A loop that looks for the first place. -/
theorem first_bad (p : Nat → Bool) : ∀ n, (∀ i, i < n → p i = true) ∨ ∃ k, k < n ∧ (∀ i, i < k → p i = true) ∧ p k = false
  | 0 => .inl fun i hi => by omega
  | n + 1 => by
    rcases first_bad p n with h | ⟨k, h1, h2⟩
    · cases hn : p n with
      | true =>
        refine .inl fun i hi => ?_
        by_cases e : i = n
        · subst e; exact hn
        · exact h i (by omega)
      | false => exact .inr ⟨n, by omega, h, hn⟩
    · exact .inr ⟨k, by omega, h2⟩

/-- The same over a list. -/
theorem first_in {α : Type} (p : α → Bool) (l : List α) : (∀ x ∈ l, p x = false) ∨ ∃ (k : Nat) (x : α), l[k]? = some x ∧ p x = true ∧ ∀ (i : Nat) y, i < k → l[i]? = some y → p y = false := by
  rcases first_bad (fun i => !((l[i]?).any p)) l.length with h | ⟨k, hk, h1, h2⟩
  · left
    intro x hx
    obtain ⟨i, hi, e⟩ := List.getElem_of_mem hx
    have := h i hi
    rw [List.getElem?_eq_getElem hi, e] at this
    simpa using this
  · right
    refine ⟨k, l[k], List.getElem?_eq_getElem hk, ?_, fun j y hj hy => ?_⟩
    · rw [List.getElem?_eq_getElem hk] at h2
      simpa using h2
    · have := h1 j hj
      rw [hy] at this
      simpa using this

theorem findIdx_not {α : Type} {p : α → Bool} {l : List α} {j : Nat} {y : α} (h : j < l.findIdx p) (hy : l[j]? = some y) : p y = false := by
  have hj : j < l.length := (List.getElem?_eq_some_iff.1 hy).1
  have := List.not_of_lt_findIdx h
  rw [(List.getElem?_eq_some_iff.1 hy).2] at this
  simpa using this
theorem findIdx_hit {α : Type} {p : α → Bool} {l : List α} (h : l.findIdx p < l.length) : ∃ x, l[l.findIdx p]? = some x ∧ p x = true :=
  ⟨l[l.findIdx p], List.getElem?_eq_getElem h, List.findIdx_getElem⟩
theorem findIdx_le {α : Type} (p : α → Bool) (l : List α) : l.findIdx p ≤ l.length := List.findIdx_le_length
theorem findIdx_none {α : Type} {p : α → Bool} {l : List α} (h : l.findIdx p = l.length) : ∀ x ∈ l, p x = false := by
  intro x hx
  obtain ⟨i, hi, e⟩ := List.getElem_of_mem hx
  have := findIdx_not (p := p) (l := l) (j := i) (y := x) (by omega) (by rw [List.getElem?_eq_getElem hi, e])
  exact this

/-! Appending, whatever the numbers. -/
section
variable {α : Type}
theorem app_some {e : Enc α} {ty by' : Nat} {H : Heap} {nx b : Nat} {l m : List α} {src : PV} (h : RowAt e ty H b l) (hs : srcP H e.z src = some (m.length, (m.flatMap e.enc).map .t))
    (hb : (l.length + m.length) * by' ≤ 140737488355328) (hb2 : l.length + m.length ≤ 9223372036854775807) :
    ∃ b' H' nx', appM ty e.z by' H nx (rowP e b l) src = some (rowP e b' (l ++ m), H', nx') ∧ RowAt e ty H' b' (l ++ m) ∧ b' ≠ nx' ∧ nx ≤ nx' ∧ (∀ c, c ≠ b → c < nx → look H' c = look H c) ∧ nx ≤ b' := by
  have ap := app_row (nx := nx) h hs hb hb2
  by_cases he : l ++ m = []
  · refine ⟨nx + 1, appH e ty H nx b l m, appN nx l m, ?_, by rw [he]; exact RowAt.nil _ _ _ _, ?_, ?_, ?_, by omega⟩
    · rw [ap]
      have : ∀ b', rowP e b' (l ++ m) = .t nilS := by intro b'; rw [he]; rfl
      rw [this, this]
    · unfold appN; rw [he]; simp
    · unfold appN; rw [he]; simp
    · intro c hc hlt
      unfold appH; rw [he]; simp
  · have hne : (l ++ m).isEmpty = false := by
      cases hx : l ++ m with
      | nil => exact absurd hx he
      | cons _ _ => rfl
    refine ⟨nx, appH e ty H nx b l m, appN nx l m, ap, RowAt.app, ?_, ?_, ?_, Nat.le_refl _⟩
    · unfold appN; rw [hne]; simp
    · unfold appN; rw [hne]; simp
    · intro c hc hlt
      exact look_appH (by omega) hc

variable {e : Enc α} {t : T} {l : List α}
theorem take_flat (e : Enc α) : ∀ (l : List α) (k : Nat), (l.flatMap e.enc).take (k * e.z) = (l.take k).flatMap e.enc
  | [], k => by simp
  | a :: l, 0 => by simp
  | a :: l, k + 1 => by
    rw [List.flatMap_cons, List.take_succ_cons, List.flatMap_cons, Nat.succ_mul, Nat.add_comm, ← e.len a, List.take_length_add_append, e.len a, take_flat e l k]
theorem drop_flat (e : Enc α) : ∀ (l : List α) (k : Nat), (l.flatMap e.enc).drop (k * e.z) = (l.drop k).flatMap e.enc
  | [], k => by simp
  | a :: l, 0 => by simp
  | a :: l, k + 1 => by
    rw [List.flatMap_cons, List.drop_succ_cons, Nat.succ_mul, Nat.add_comm, ← List.drop_drop, List.drop_left' (e.len a), drop_flat e l k]

theorem IsS.slice_to (h : IsS e t l) {k : Nat} (hk : k ≤ l.length) (ik : IntKind) : ∃ t', sliceM e.z (.t t) none (some (.t (.v (.int ik (k : Int))))) = some (.t t') ∧ IsS e t' (l.take k) := by
  rcases h with ⟨rfl, rfl⟩ | rfl
  · have : k = 0 := by simpa using hk
    subst this
    exact ⟨nilS, rfl, .inl ⟨rfl, rfl⟩⟩
  · refine ⟨slT e (l.take k), ?_, .inr rfl⟩
    have h0 : ¬ (k : Int) < 0 := by omega
    simp only [sliceM, slT, boundV]
    simp [hk, take_flat, Nat.min_eq_left hk]

theorem IsS.slice_from (h : IsS e t l) {k : Nat} (hk : k ≤ l.length) (ik : IntKind) : ∃ t', sliceM e.z (.t t) (some (.t (.v (.int ik (k : Int))))) none = some (.t t') ∧ IsS e t' (l.drop k) := by
  rcases h with ⟨rfl, rfl⟩ | rfl
  · have : k = 0 := by simpa using hk
    subst this
    exact ⟨nilS, rfl, .inl ⟨rfl, rfl⟩⟩
  · refine ⟨slT e (l.drop k), ?_, .inr rfl⟩
    simp only [sliceM, slT, boundV]
    have tk : List.take ((l.length - k) * e.z) ((l.drop k).flatMap e.enc) = (l.drop k).flatMap e.enc := List.take_of_length_le (by rw [length_flat]; simp)
    simp [hk, drop_flat, tk]
end
end Go.Abs

namespace Go.Abs
set_option linter.unusedSimpArgs false
set_option linter.unusedVariables false
open Go
section
variable {α : Type} {e : Enc α} {ty b : Nat} {H : Heap} {l : List α}

theorem iaddr_rowP {i : Nat} {x : α} (hx : l[i]? = some x) (k : IntKind) : iaddrM e.z (rowP e b l) (.t (.v (.int k (i : Int)))) = some (.ptr b (i * e.z)) := by
  have hi : i < l.length := (List.getElem?_eq_some_iff.1 hx).1
  cases l with
  | nil => simp at hi
  | cons a r =>
    simp only [rowP, iaddrM]
    rw [if_pos ⟨by omega, by omega⟩]
    simp

theorem RowAt.load (h : RowAt e ty H b l) {i off : Nat} {x : α} {c : T} (hx : l[i]? = some x) (hc : (e.enc x)[off]? = some c) : loadM false 1 H (.ptr b (i * e.z + off)) = some (.t c) := by
  have hi : i < l.length := (List.getElem?_eq_some_iff.1 hx).1
  rcases h with h | h
  · subst h; simp at hi
  · simp only [loadM, h, rowOf, Bool.false_eq_true, if_false]
    have hd := flat_drop e l i x hx
    have : (l.flatMap e.enc)[i * e.z + off]? = some c := by
      rw [← List.getElem?_drop, hd, List.getElem?_append_left (by have := (List.getElem?_eq_some_iff.1 hc).1; exact this)]
      exact hc
    simp [this]

theorem RowAt.loadAg (h : RowAt e ty H b l) {i : Nat} {x : α} (hx : l[i]? = some x) : loadM true e.z H (.ptr b (i * e.z)) = some (.t (.ag (e.enc x))) := by
  have hi : i < l.length := (List.getElem?_eq_some_iff.1 hx).1
  rcases h with h | h
  · subst h; simp at hi
  · have hd := flat_drop e l i x hx
    have hlen : i * e.z + e.z ≤ (l.flatMap e.enc).length := by
      rw [length_flat, ← Nat.succ_mul]
      exact Nat.mul_le_mul_right _ hi
    have hseg : ((l.flatMap e.enc).map PV.t |>.drop (i * e.z)).take e.z = (e.enc x).map .t := by
      rw [← List.map_drop, hd, ← List.map_take, ← e.len x, List.take_left']
      rfl
    simp only [loadM, h, rowOf, if_true, List.length_map, hlen, hseg, agOf, allT_map_t]
end

/-! Working off a list. -/
section
variable {α : Type}
def workF (next : α → List α → List α) : Nat → Nat → List α → List α
  | 0, _, todo => todo
  | f + 1, i, todo => match todo[i]? with
    | none => todo
    | some s => workF next f (i + 1) (next s todo)

/-- What the loop keeps: n bounds the list. -/
structure Work (next : α → List α → List α) (In : α → Prop) (n : Nat) (start : List α) (i : Nat) (todo : List α) : Prop where
  nodup : todo.Nodup
  mem : ∀ s ∈ todo, In s
  le : i ≤ todo.length
  eq : workF next (n + 1 - i) i todo = workF next (n + 1) 0 start

theorem Work.stop {next : α → List α → List α} {In : α → Prop} {n : Nat} {start : List α} {i : Nat} {todo : List α} (h : Work next In n start i todo) (he : i = todo.length) : workF next (n + 1) 0 start = todo := by
  rw [← h.eq]
  cases hn : n + 1 - i with
  | zero => rfl
  | succ f =>
    have : todo[i]? = none := by rw [he]; simp
    simp only [workF, this]

theorem Work.step {next : α → List α → List α} {In : α → Prop} {n : Nat} {start : List α} {i : Nat} {todo todo' : List α} {s : α} (h : Work next In n start i todo) (hs : todo[i]? = some s) (hn : todo.length ≤ n)
    (he : todo' = next s todo) (hd : todo'.Nodup) (hm : ∀ s ∈ todo', In s) (hl : todo.length ≤ todo'.length) : Work next In n start (i + 1) todo' := by
  have hi := (List.getElem?_eq_some_iff.1 hs).1
  refine ⟨hd, hm, by omega, ?_⟩
  rw [← h.eq, show n + 1 - i = (n + 1 - (i + 1)) + 1 by omega]
  simp only [workF, hs]
  rw [he]
end
end Go.Abs

namespace Go.Abs
set_option linter.unusedSimpArgs false
set_option linter.unusedVariables false
open Go
section
variable {α β : Type} {e : Enc α} {e' : Enc β} {ty ty' b b' : Nat} {H : Heap} {l : List α} {l' : List β}

theorem RowAt.left (h : RowAt e ty H b l) (hb : b ≠ b') : RowAt e ty (rowH e' ty' b' l' ++ H) b l := by
  cases l' with
  | nil => simpa [rowH] using h
  | cons x r => exact h.cons (Ne.symm hb)

theorem slice_row_to (b : Nat) (l : List α) {k : Nat} (hk : k ≤ l.length) (ik : IntKind) : ∃ p, sliceM e.z (rowP e b l) none (some (.t (.v (.int ik (k : Int))))) = some p ∧ ∀ ty H, RowAt e ty H b l → srcP H e.z p = some ((l.take k).length, ((l.take k).flatMap e.enc).map .t) := by
  cases l with
  | nil =>
    have : k = 0 := by simpa using hk
    subst this
    exact ⟨.t nilS, rfl, fun ty H _ => rfl⟩
  | cons x r =>
    have hl : ((x :: r).flatMap e.enc).length = (x :: r).length * e.z := length_flat e _
    have tk : (x :: r).take k = (x :: r).take k := rfl
    by_cases h0 : k = 0
    · subst h0
      refine ⟨.row b 0 0 e.z, ?_, fun ty H h => ?_⟩
      · simp [sliceM, rowP]
      · rcases h with h | h
        · cases h
        · simp [srcP, h, rowOf]
    · refine ⟨.row b 0 k e.z, ?_, fun ty H h => ?_⟩
      · have h1 : 0 < k := by omega
        have h2 : k ≤ r.length + 1 := by simpa using hk
        simp [sliceM, rowP, h1, h2]
      · rcases h with h | h
        · cases h
        · have hle : k * e.z ≤ ((x :: r).flatMap e.enc).length := by rw [hl]; exact Nat.mul_le_mul_right _ hk
          have hseg : (((x :: r).flatMap e.enc).map PV.t).take (k * e.z) = (((x :: r).take k).flatMap e.enc).map .t := by rw [← List.map_take, take_flat]
          simp only [srcP, h, rowOf, true_and, Nat.zero_add, List.length_map, hle, if_true, List.drop_zero, hseg, List.length_take, Nat.min_eq_left hk]

theorem slice_row_from (b : Nat) (l : List α) {k : Nat} (hk : k ≤ l.length) (ik : IntKind) : ∃ p, sliceM e.z (rowP e b l) (some (.t (.v (.int ik (k : Int))))) none = some p ∧ ∀ ty H, RowAt e ty H b l → srcP H e.z p = some ((l.drop k).length, ((l.drop k).flatMap e.enc).map .t) := by
  cases l with
  | nil =>
    have : k = 0 := by simpa using hk
    subst this
    exact ⟨.t nilS, rfl, fun ty H _ => rfl⟩
  | cons x r =>
    have hl : ((x :: r).flatMap e.enc).length = (x :: r).length * e.z := length_flat e _
    by_cases h0 : k = (x :: r).length
    · refine ⟨.t (.sl 0 []), ?_, fun ty H h => ?_⟩
      · have h1 : ¬ k < r.length + 1 := by simp at h0; omega
        have h2 : k = r.length + 1 := by simpa using h0
        have h3 : (0 : Int) ≤ (r.length : Int) + 1 := by omega
        simp [sliceM, rowP, h2, h3]
      · have : (x :: r).drop k = [] := by rw [h0]; simp
        rw [this]; simp [srcP]
    · refine ⟨.row b (k * e.z) ((x :: r).length - k) e.z, ?_, fun ty H h => ?_⟩
      · have h1 : k < r.length + 1 := by simp at hk h0; omega
        simp [sliceM, rowP, h1]
      · rcases h with h | h
        · cases h
        · have hsum : k * e.z + ((x :: r).length - k) * e.z = (x :: r).length * e.z := by rw [← Nat.add_mul]; congr 1; omega
          have hle : k * e.z + ((x :: r).length - k) * e.z ≤ (((x :: r).flatMap e.enc).map PV.t).length := by rw [List.length_map, hl, hsum]; exact Nat.le_refl _
          have hseg : ((((x :: r).flatMap e.enc).map PV.t).drop (k * e.z)).take (((x :: r).length - k) * e.z) = (((x :: r).drop k).flatMap e.enc).map .t := by
            rw [← List.map_drop, drop_flat]
            refine List.take_of_length_le ?_
            rw [List.length_map, length_flat, List.length_drop]
            exact Nat.le_refl _
          simp only [srcP, h, rowOf, true_and, hle, if_true, hseg, List.length_drop]
end
end Go.Abs

namespace Go.Abs
set_option linter.unusedSimpArgs false
set_option linter.unusedVariables false
open Go

section
variable {P : Program} {G : Globs}

/-- Behind a call: only the object's row is kept. -/
theorem CallP.keep1 {f : FuncId} {ps : List PV} {R0 : Row} {r : T} {H' : Heap} {nx' : Nat} {ty : TypeId} {cs : List T} (h : CallP P G f ps [(0, R0)] 1 (.t r) H' nx') (hl : look H' 0 = some (.cells ty (cs.map .t))) :
    CallP P G f ps [(0, R0)] 1 (.t r) [(0, .cells ty (cs.map .t))] 1 := by
  refine ⟨h.1, fun L w us hok hnx hargs => (h.2 L w us hok hnx hargs).mono ?_⟩
  rintro e w' ⟨v, L', rfl, hv, hok', hnx', hm, hx⟩
  have one : ∀ b r, look [(0, Row.cells ty (cs.map .t))] b = some r → b = 0 ∧ r = .cells ty (cs.map .t) := by
    intro b r hb
    simp only [look] at hb
    split at hb
    · rename_i e; injection hb with hb; exact ⟨e.symm, hb.symm⟩
    · cases hb
  refine ⟨v, { L' with nx := 1 }, rfl, by simp only [RepV] at hv ⊢; exact hv, ⟨hok'.lt, fun b r hb => ?_, fun b r hb => ?_, fun b b' r r' hb hb' _ => ?_, fun b r hb => ?_, hok'.glob⟩, rfl,
    ⟨hm.keeps, by rw [hnx]; exact Nat.le_refl _, hm.μ, hm.size, hm.shape⟩, ⟨hx.size, hx.same, hx.more, hx.new, fun g ⟨b, r, hb, e⟩ => ?_, hx.shape, hx.outer⟩⟩
  · obtain ⟨rfl, rfl⟩ := one b r hb
    obtain ⟨arr, ha, hl2, hc⟩ := hok'.rep 0 _ hl
    refine ⟨arr, ha, hl2, fun j c hj => ?_⟩
    obtain ⟨x, hx1, hx2, hx3⟩ := hc j c hj
    refine ⟨x, hx1, hx2, ?_⟩
    rw [List.getElem?_map] at hj
    obtain ⟨c0, _, rfl⟩ := Option.map_eq_some_iff.1 hj
    simp only [RepV] at hx3 ⊢
    exact hx3
  · obtain ⟨rfl, rfl⟩ := one b r hb
    exact hok'.apart 0 _ hl
  · rw [(one b r hb).1, (one b' r' hb').1]
  · rw [(one b r hb).1]; exact Nat.lt_succ_self _
  · obtain ⟨rfl, rfl⟩ := one b r hb
    exact hx.mine g ⟨0, _, hl, e⟩

/-- What a method does to its object's cells. -/
def hObj (ty : TypeId) (g : List T → List T → Option (T × List T)) (ps : List PV) (H : Heap) (nx : Nat) : Option (PV × Heap × Nat) :=
  match ps with
  | .ptr b 0 :: args => match look H b, allT args with
    | some (.cells ty' cs), some ts => match allT cs with
      | some cs' => if ty' = ty ∧ b < nx then (g cs' ts).map fun o => (.t o.1, upd H b (.cells ty (o.2.map .t)), nx) else none
      | none => none
    | _, _ => none
  | _ => none

theorem hObj_ok {f : FuncId} {ty : TypeId} {g : List T → List T → Option (T × List T)}
    (h : ∀ cs ts r cs', g cs ts = some (r, cs') → CallP P G f (.ptr 0 0 :: ts.map .t) [(0, .cells ty (cs.map .t))] 1 (.t r) [(0, .cells ty (cs'.map .t))] 1) : HOK P G f (hObj ty g) where
  call := fun ps H nx r H' nx' hr => by
    unfold hObj at hr
    split at hr
    · rename_i b args
      split at hr
      · rename_i ty' cs ts hl ha
        split at hr
        · rename_i cs' hc
          split at hr
          · rename_i hcond
            obtain ⟨rfl, hb⟩ := hcond
            obtain ⟨o, ho, e⟩ := Option.map_eq_some_iff.1 hr
            injection e with e1 e2; injection e2 with e2 e3; subst e1; subst e2; subst e3
            have := (h cs' ts o.1 o.2 ho).lift1 (b := b) (NX := nx) (Hb := H) (by rw [hl, allT_map hc]) hb
            rw [← allT_map ha] at this
            exact this
          · cases hr
        · cases hr
      · cases hr
    · cases hr
  fresh := fun ps H nx r H' nx' hr hf => by
    unfold hObj at hr
    split at hr
    · rename_i b args
      split at hr
      · rename_i ty' cs ts hl ha
        split at hr
        · rename_i cs' hc
          split at hr
          · rename_i hcond
            obtain ⟨o, ho, e⟩ := Option.map_eq_some_iff.1 hr
            injection e with e1 e2; injection e2 with e2 e3; subst e1; subst e2; subst e3
            intro j x hj
            rw [look_upd] at hj
            split at hj
            · rename_i e; subst e; exact hcond.2
            · exact hf j x hj
          · cases hr
        · cases hr
      · cases hr
    · cases hr

theorem hObj_eq {ty : TypeId} {g : List T → List T → Option (T × List T)} {b nx : Nat} {H : Heap} {cs ts : List T} {o : T × List T} (hl : look H b = some (.cells ty (cs.map .t))) (hb : b < nx) (ho : g cs ts = some o) :
    hObj ty g (.ptr b 0 :: ts.map .t) H nx = some (.t o.1, upd H b (.cells ty (o.2.map .t)), nx) := by
  simp only [hObj, hl, allT_map_t, hb, and_self, if_true, ho, Option.map_some]
end
/-- A contract at one call. -/
noncomputable def hOne (ps0 : List PV) (H0 : Heap) (nx0 : Nat) (out : PV × Heap × Nat) (ps : List PV) (H : Heap) (nx : Nat) : Option (PV × Heap × Nat) :=
  open Classical in if ps = ps0 ∧ H = H0 ∧ nx = nx0 then some out else none
theorem hOne_eq (ps : List PV) (H : Heap) (nx : Nat) (out : PV × Heap × Nat) : hOne ps H nx out ps H nx = some out := by
  unfold hOne
  rw [if_pos ⟨rfl, rfl, rfl⟩]
theorem hOne_ok {P : Program} {G : Globs} {f : FuncId} {ps : List PV} {H : Heap} {nx : Nat} {r : PV} {H' : Heap} {nx' : Nat} (h : CallP P G f ps H nx r H' nx') (hf : (∀ b x, look H b = some x → b < nx) → ∀ b x, look H' b = some x → b < nx') : HOK P G f (hOne ps H nx (r, H', nx')) where
  call := fun ps1 H1 nx1 r1 H1' nx1' h1 => by
    unfold hOne at h1
    split at h1
    · rename_i hc
      obtain ⟨rfl, rfl, rfl⟩ := hc
      injection h1 with h1
      injection h1 with h1 h2
      injection h2 with h2 h3
      subst h1; subst h2; subst h3
      exact h
    · cases h1
  fresh := fun ps1 H1 nx1 r1 H1' nx1' h1 => by
    unfold hOne at h1
    split at h1
    · rename_i hc
      obtain ⟨rfl, rfl, rfl⟩ := hc
      injection h1 with h1
      injection h1 with h1 h2
      injection h2 with h2 h3
      subst h1; subst h2; subst h3
      exact hf
    · cases h1

section
variable {α : Type} {P : Program} {G : Globs} {B : Nat}
theorem sub_rowR {e : Enc α} {ty b k nx nx' n : Nat} {l : List α} {env env' : List (Nat × PV)} {H R : Heap} (h : RowAt e ty H k l) (hb : b < nx') (hB : B ≤ b)
    (hR : ∀ q ∈ R, look H q.1 = some (renRow (fun x => if x = b then k else x) q.2) ∧ q.1 < nx' ∧ q.1 ≠ b ∧ q.1 ≠ k ∧ underRow nx' q.2 = true)
    (he : ∀ q ∈ env', look env q.1 = some (ren (fun x => if x = b then k else x) q.2) ∧ under nx' q.2 = true) :
    Sub P G B ⟨env, H, nx, n⟩ ⟨env', R ++ rowH e ty b l, nx', n⟩ := by
  refine sub_ren (fun x => if x = b then k else x) rfl (by show B ≤ nx'; omega) (fun x hx => by show (if x = b then k else x) = x; rw [if_neg (by omega)]) he (fun q hq => ?_) (fun q hq q' hq' eqn => ?_)
  · rcases List.mem_append.1 hq with hq | hq
    · obtain ⟨h1, h2, h3, h4, h5⟩ := hR q hq
      refine ⟨?_, h2, h5⟩
      show look H (if q.1 = b then k else q.1) = _
      rw [if_neg h3]
      exact h1
    · obtain ⟨hn, rfl⟩ := mem_rowH hq
      simp only [if_true, renRow_rowOf, underRow_rowOf]
      exact ⟨h.resolve_left hn, hb, trivial⟩
  · have key : ∀ q ∈ R ++ rowH e ty b l, q.1 = b ∨ (q.1 ≠ b ∧ q.1 ≠ k) := by
      intro q hq
      rcases List.mem_append.1 hq with hq | hq
      · obtain ⟨h1, h2, h3, h4, h5⟩ := hR q hq
        exact .inr ⟨h3, h4⟩
      · obtain ⟨hn, rfl⟩ := mem_rowH hq
        exact .inl rfl
    have e : (if q.1 = b then k else q.1) = (if q'.1 = b then k else q'.1) := eqn
    rcases key q hq with h1 | ⟨h1, h2⟩ <;> rcases key q' hq' with h1' | ⟨h1', h2'⟩
    · rw [h1, h1']
    · rw [if_pos h1, if_neg h1'] at e; exact absurd e.symm h2'
    · rw [if_neg h1, if_pos h1'] at e; exact absurd e h2
    · rw [if_neg h1, if_neg h1'] at e; exact e
end
end Go.Abs
