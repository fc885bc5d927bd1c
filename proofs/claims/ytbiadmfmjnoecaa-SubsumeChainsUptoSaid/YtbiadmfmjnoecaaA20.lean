/-
  Running whole functions on given data by reckoning ('callN'), with a number that bounds rounds and calls; that what it reckons is what the program returns. No statement of the program stands here.
-/
import Derived.Test.YtbiadmfmjnoecaaA19
namespace Go.Abs
set_option linter.unusedSimpArgs false
set_option linter.unusedVariables false
open Go

def iterF (f : AState → Option (Exit × AState)) : Nat → AState → Option (Exit × AState)
  | 0, _ => none
  | k + 1, s => match f s with
    | some (.normal, s') => iterF f k s'
    | r => r

/-- Each slot once. -/
def tidyE : List (Nat × PV) → List Nat → List (Nat × PV)
  | [], _ => []
  | (k, p) :: r, seen => if seen.contains k then tidyE r seen else (k, p) :: tidyE r (k :: seen)

mutual
/-- The rows that a value names. -/
def rowsOf : PV → List Nat
  | .row b _ _ _ => [b]
  | .ptr b _ => [b]
  | .ag cs => rowsOfL cs
  | .tu cs => rowsOfL cs
  | .fn _ a c => rowsOfL a ++ rowsOfL c
  | .ic _ x => rowsOf x
  | .mp b => [b]
  | _ => []
def rowsOfL : List PV → List Nat
  | [] => []
  | p :: ps => rowsOf p ++ rowsOfL ps
end

def rowsOfRow : Row → List Nat
  | .cells _ cs => rowsOfL cs
  | .iter _ _ => []

/-- Rows that nothing names are dropped. -/
def sweep (env : List (Nat × PV)) (H : Heap) : Heap :=
  let used := env.flatMap (fun q => rowsOf q.2) ++ H.flatMap (fun q => rowsOfRow q.2)
  H.filter fun q => used.contains q.1

def tidy (s : AState) : AState :=
  let env := tidyE s.env []
  { s with env := env, H := sweep env s.H }

theorem tidyE_mem : ∀ (l : List (Nat × PV)) (seen : List Nat) q, q ∈ tidyE l seen → look l q.1 = some q.2 ∧ q.1 ∉ seen
  | [], seen, q, h => by simp [tidyE] at h
  | (k, p) :: r, seen, q, h => by
    simp only [tidyE] at h
    split at h
    · rename_i hk
      obtain ⟨h1, h2⟩ := tidyE_mem r seen q h
      have : k ≠ q.1 := fun e => h2 (by rw [← e]; simpa using hk)
      simp [this, h1, h2]
    · rename_i hk
      rcases List.mem_cons.1 h with rfl | h
      · simpa using hk
      · obtain ⟨h1, h2⟩ := tidyE_mem r (k :: seen) q h
        simp only [List.mem_cons, not_or] at h2
        have : k ≠ q.1 := fun e => h2.1 e.symm
        simp [this, h1, h2.2]

/-- No number stands twice. -/
def Uniq (H : Heap) : Prop := ∀ q ∈ H, look H q.1 = some q.2

/-- The slices that rows name. -/
def innerC : PV → List Nat
  | .row b _ _ _ => [b]
  | _ => []
def inner (H : Heap) : List Nat := H.flatMap fun q => match q.2 with
  | .cells _ cs => cs.flatMap innerC
  | _ => []
def isCall : MK → Bool
  | .call _ => true
  | _ => false
/-- Functions that return what shares with their arguments. -/
def shares : List Nat := [104]
def given (m : Mini) (s : AState) : List Nat := match m.k with
  | .call f => if shares.contains f then m.xs.flatMap (fun x => innerC (x.ev s.env)) else []
  | _ => []
/-- Before a call the slices within slices are frozen, and those that are handed to some functions. -/
def preZ (m : Mini) (s : AState) : AState := if isCall m.k then (match inner s.H ++ given m s with | [] => s | F => s.frz F) else s
def runZ (Φ : Oracle) : List Mini → AState → Option AState
  | [], s => some s
  | m :: r, s => match stepM Φ (preZ m s) m with
    | some s' => runZ Φ r s'
    | none => none

/-! Values that are seen to be the same. -/

def eqV : Value → Value → Bool
  | .int k a, .int k' b => decide (k = k') && (a == b)
  | .bool a, .bool b => a == b
  | .string a, .string b => a.data.toList == b.data.toList
  | .slice none 0 0, .slice none 0 0 => true
  | _, _ => false
theorem eqV_eq {a b : Value} (h : eqV a b = true) : a = b := by
  unfold eqV at h
  split at h
  · simp only [Bool.and_eq_true, decide_eq_true_eq, beq_iff_eq] at h
    rw [h.1, h.2]
  · simp at h; rw [h]
  · rename_i a b
    simp only [beq_iff_eq] at h
    have : a = b := by
      cases a; cases b
      congr
      exact Array.toList_inj.1 h
    rw [this]
  · rfl
  · cases h
mutual
def eqT : T → T → Bool
  | .v a, .v b => eqV a b
  | .sl n l, .sl m r => (n == m) && eqTs l r
  | .ag l, .ag r => eqTs l r
  | .tu l, .tu r => eqTs l r
  | _, _ => false
def eqTs : List T → List T → Bool
  | [], [] => true
  | a :: l, b :: r => eqT a b && eqTs l r
  | _, _ => false
end
mutual
theorem eqT_eq : ∀ (a b : T), eqT a b = true → a = b
  | .v a, .v b, h => by simp only [eqT] at h; rw [eqV_eq h]
  | .sl n l, .sl m r, h => by
    simp only [eqT, Bool.and_eq_true, beq_iff_eq] at h
    rw [h.1, eqTs_eq l r h.2]
  | .ag l, .ag r, h => by simp only [eqT] at h; rw [eqTs_eq l r h]
  | .tu l, .tu r, h => by simp only [eqT] at h; rw [eqTs_eq l r h]
  | .v _, .sl _ _, h => by simp [eqT] at h
  | .v _, .ag _, h => by simp [eqT] at h
  | .v _, .tu _, h => by simp [eqT] at h
  | .v _, .pt _, h => by simp [eqT] at h
  | .sl _ _, .v _, h => by simp [eqT] at h
  | .sl _ _, .ag _, h => by simp [eqT] at h
  | .sl _ _, .tu _, h => by simp [eqT] at h
  | .sl _ _, .pt _, h => by simp [eqT] at h
  | .ag _, .v _, h => by simp [eqT] at h
  | .ag _, .sl _ _, h => by simp [eqT] at h
  | .ag _, .tu _, h => by simp [eqT] at h
  | .ag _, .pt _, h => by simp [eqT] at h
  | .tu _, .v _, h => by simp [eqT] at h
  | .tu _, .sl _ _, h => by simp [eqT] at h
  | .tu _, .ag _, h => by simp [eqT] at h
  | .tu _, .pt _, h => by simp [eqT] at h
  | .pt _, _, h => by simp [eqT] at h
theorem eqTs_eq : ∀ (a b : List T), eqTs a b = true → a = b
  | [], [], _ => rfl
  | a :: l, b :: r, h => by
    simp only [eqTs, Bool.and_eq_true] at h
    rw [eqT_eq a b h.1, eqTs_eq l r h.2]
  | [], _ :: _, h => by simp [eqTs] at h
  | _ :: _, [], h => by simp [eqTs] at h
end

def eqP : PV → PV → Bool
  | .t x, .t y => eqT x y
  | .row b o n z, .row b' o' n' z' => b == b' && o == o' && n == n' && z == z'
  | .ptr b o, .ptr b' o' => b == b' && o == o'
  | _, _ => false

theorem eqP_eq (x y : PV) (h : eqP x y = true) : x = y := by
  unfold eqP at h
  split at h
  · rw [eqT_eq _ _ h]
  · simp at h; obtain ⟨⟨⟨rfl, rfl⟩, rfl⟩, rfl⟩ := h; rfl
  · simp at h; obtain ⟨rfl, rfl⟩ := h; rfl
  · cases h

def agnB (Φ : Oracle) (pd : Pend) (H : Heap) (nx : Nat) (ks : List Nat) : Bool := ks.all fun i => match look pd i with
  | some x => (match evalQ Φ H nx x.1 x.2.1 with
    | some v => eqP v x.2.2
    | none => false)
  | none => false

theorem agnB_sound {Φ : Oracle} {pd : Pend} {H : Heap} {nx : Nat} {ks : List Nat} (h : agnB Φ pd H nx ks = true) : agnP Φ pd H nx ks := by
  intro i hi
  have := List.all_eq_true.1 h i hi
  split at this
  · rename_i x hx
    split at this
    · rename_i v hv; exact ⟨x, hx, by rw [hv, eqP_eq _ _ this]⟩
    · cases this
  · cases this

def runB (Φ : Oracle) (k : Nat) : Nat → Nat → Pend → List GI → AState → Option AState
  | _, _, _, [], s => some s
  | n, b, pd, .o m kp ag :: r, s => match valD Φ s m with
    | some (v, H', nx') => if agnB Φ pd H' nx' ag then runB Φ k (n + 1) b (keepG kp n m s v pd) r (({ s with H := H', nx := nx' } : AState).put m.dst v) else none
    | none => none
  | n, b, pd, .g j m :: r, s => match evalK Φ s.H ((if j = 0 then s.nx else b) + k + j) m.k (m.xs.map (·.ev s.env)) with
    | some (v, H', _) => runB Φ k (n + 1) (if j = 0 then s.nx else b) pd r (({ s with H := H', nx := (if j = 0 then s.nx else b) + 2 * k } : AState).put m.dst v)
    | none => none

theorem runB_sound {Φ : Oracle} {k : Nat} : ∀ (l : List GI) {n b : Nat} {pd : Pend} {s s' : AState}, runB Φ k n b pd l s = some s' → runG Φ k n b pd l s = some s'
  | [], n, b, pd, s, s', h => h
  | .o m kp ag :: r, n, b, pd, s, s', h => by
    simp only [runB] at h
    simp only [runG]
    split at h
    · rename_i hv
      split at h
      · rename_i ha
        simp only [hv, if_pos (agnB_sound ha)]
        exact runB_sound r h
      · cases h
    · cases h
  | .g j m :: r, n, b, pd, s, s', h => by
    simp only [runB] at h
    simp only [runG]
    split at h
    · rename_i hv
      simp only [hv]
      exact runB_sound r h
    · cases h

def runF (Φ : Oracle) (k : Nat) : MCode → AState → Option (Exit × AState)
  | .skip, s => some (.normal, s)
  | .ops l, s => match runZ Φ l s with
    | some s1 => some (.normal, s1)
    | none => none
  | .draw l, s => match runD Φ l s with
    | some s1 => some (.normal, s1)
    | none => none
  | .drawG k l, s => match runB Φ k 0 0 [] l s with
    | some s1 => some (.normal, s1)
    | none => none
  | .seq a b, s => match runF Φ k a s with
    | some (.normal, s1) => runF Φ k b s1
    | r => r
  | .cond c a b, s => match c.ev s.env with
    | .t (.v (.bool t)) => bif t then runF Φ k a s else runF Φ k b s
    | _ => none
  | .block id b, s => match runF Φ k b s with
    | some (.exit i, s1) => if i = id then some (.normal, s1) else some (.exit i, s1)
    | r => r
  | .loop b, s => iterF (fun s => match runF Φ k b { s with env := tidyE s.env [] } with
    | r => r) k s
  | .exit id, s => some (.exit id, s)
  | .ret, s => some (.ret, s)
  | .scope b, s => match runF Φ k b s with
    | some (.goto _, _) => none
    | r => r

section
variable {P : Program} {G : Globs} {B N : Nat} {Φ : Oracle}

theorem preZ_n (m : Mini) (s : AState) : (preZ m s).n = s.n := by
  unfold preZ
  split
  · split <;> rfl
  · rfl
theorem sub_preZ (m : Mini) (s : AState) : Sub P G B s (preZ m s) := by
  unfold preZ
  split
  · split
    · exact Sub.refl s
    · exact sub_frz _
  · exact Sub.refl s
theorem runZ_n : ∀ {l : List Mini} {s s' : AState}, runZ Φ l s = some s' → s'.n = s.n
  | [], s, s', h => by simp only [runZ, Option.some.injEq] at h; rw [h]
  | m :: r, s, s', h => by
    simp only [runZ] at h
    split at h
    · rename_i s1 h1; rw [runZ_n h, stepM_n h1, preZ_n]
    · cases h
theorem wpList_post {ops : Array Oper} {Q Q' : Exit → Act → World → Prop} (hq : ∀ e a w, Q e a w → Q' e a w) : ∀ (l : List Oper) (a : Act) (w : World), wpList P ops Q l a w → wpList P ops Q' l a w := by
  intro l
  induction l with
  | nil => intro a w2 h; exact hq _ _ _ h
  | cons o r ih =>
    intro a w2 h
    unfold wpList at h ⊢
    split
    · rename_i hw
      rw [if_pos hw] at h
      rcases h with h | ⟨h1, a0, w0, h2⟩
      · exact .inl (oper_wp_mono ih hq h)
      · exact .inr ⟨h1, a0, w0, hq _ _ _ h2⟩
    · rename_i hw
      rw [if_neg hw] at h
      exact ih _ _ h
theorem AOps.sub {ops : Array Oper} {l : List Oper} {Q : AState → Prop} {s s' : AState} (h : Sub P G B s s') (hc : AOps P G B ops l Q s') : AOps P G B ops l Q s := fun L a w hi => by
  obtain ⟨L', hi', hx, hb⟩ := h L a w hi
  exact wpList_post (fun _ _ _ hp => Post.later hx hb hp) _ _ _ (hc L' a w hi')
theorem runZ_sound (hΦ : Φ.Sound P G) {d : Bool} {ops : Array Oper} {Q : AState → Prop} : ∀ (os : List Oper) {l : List Mini} {s s' : AState}, Alike P G N d ops os l → s.n = N → runZ Φ l s = some s' → Q s' → AOps P G B ops os Q s
  | [], l, s, s', ha, hn, h, hq => by
    simp only [Alike] at ha
    subst ha
    simp only [runZ, Option.some.injEq] at h
    subst h
    exact aops_nil hq
  | o :: rest, l, s, s', ha, hn, h, hq => by
    simp only [Alike] at ha
    obtain ⟨m, l', rfl, hm, hr⟩ := ha
    obtain ⟨hc, hdst, hd, hw⟩ := compMini_spec hm
    simp only [runZ] at h
    refine AOps.sub (sub_preZ m s) ?_
    have hn : (preZ m s).n = N := (preZ_n m s).trans hn
    generalize preZ m s = s at h hn
    split at h
    · rename_i s1 h1
      unfold stepM at h1
      rw [← hw s] at h1
      have hd' : ∀ k, o.dst = some k → k < s.n := fun k hk => by rw [hn]; exact hd k hk
      rw [hdst] at h1
      split at h1
      · rename_i hww
        split at h1
        · rename_i r H' nx' hv
          injection h1 with h1
          subst h1
          exact aops_cons hww hd' (opK_aop hΦ hc hv) (runZ_sound hΦ rest hr (by rw [put_n]; exact hn) h hq)
        · cases h1
      · rename_i hww
        injection h1 with h1
        subst h1
        exact aops_skip hww hd' (runZ_sound hΦ rest hr (by rw [put_n]; exact hn) h hq)
      · cases h1
    · cases h

theorem runF_n (k : Nat) : ∀ (M : MCode) {s : AState} {e : Exit} {s' : AState}, runF Φ k M s = some (e, s') → s'.n = s.n
  | .skip, s, e, s', h => by simp only [runF, Option.some.injEq, Prod.mk.injEq] at h; rw [h.2]
  | .ops l, s, e, s', h => by
    simp only [runF] at h
    split at h
    · rename_i s1 h1; simp only [Option.some.injEq, Prod.mk.injEq] at h; rw [← h.2, runZ_n h1]
    · cases h
  | .draw l, s, e, s', h => by
    simp only [runF] at h
    split at h
    · rename_i s1 h1; simp only [Option.some.injEq, Prod.mk.injEq] at h; rw [← h.2, runD_n h1]
    · cases h
  | .drawG k l, s, e, s', h => by
    simp only [runF] at h
    split at h
    · rename_i s1 h1; simp only [Option.some.injEq, Prod.mk.injEq] at h; rw [← h.2, runG_n l (runB_sound l h1)]
    · cases h
  | .seq a b, s, e, s', h => by
    simp only [runF] at h
    split at h
    · rename_i s1 h1; rw [runF_n k b h, runF_n k a h1]
    · exact runF_n k a h
  | .cond c a b, s, e, s', h => by
    simp only [runF] at h
    split at h
    · rename_i t ht
      cases t
      · exact runF_n k b h
      · exact runF_n k a h
    · cases h
  | .block id b, s, e, s', h => by
    simp only [runF] at h
    split at h
    · rename_i i s1 h1
      split at h
      · simp only [Option.some.injEq, Prod.mk.injEq] at h; rw [← h.2, runF_n k b h1]
      · simp only [Option.some.injEq, Prod.mk.injEq] at h; rw [← h.2, runF_n k b h1]
    · exact runF_n k b h
  | .loop b, s, e, s', h => by
    simp only [runF] at h
    have : ∀ (m : Nat) (s : AState), iterF (fun s => runF Φ k b { s with env := tidyE s.env [] }) m s = some (e, s') → s'.n = s.n := by
      intro m
      induction m with
      | zero => intro s h; cases h
      | succ m ih =>
        intro s h
        simp only [iterF] at h
        split at h
        · rename_i s1 h1; have := runF_n k b h1; rw [ih s1 h, this]
        · have := runF_n k b h; exact this
    exact this k s h
  | .exit id, s, e, s', h => by simp only [runF, Option.some.injEq, Prod.mk.injEq] at h; rw [h.2]
  | .ret, s, e, s', h => by simp only [runF, Option.some.injEq, Prod.mk.injEq] at h; rw [h.2]
  | .scope b, s, e, s', h => by
    simp only [runF] at h
    split at h
    · cases h
    · exact runF_n k b h

theorem sub_tidyE {s : AState} (hu : True) : Sub P G B s { s with env := tidyE s.env [] } := by
  intro L a w hi
  exact ⟨L, ⟨hi.heap, hi.nx, hi.base, hi.size, hi.defers, fun k p h => hi.env k p (tidyE_mem _ _ _ (mem_of_look h)).1⟩, Ext.refl _ _ _, fun _ _ => rfl⟩

theorem mc_runF (hΦ : Ctx P G Φ) (k : Nat) : ∀ (M : MCode) {Q : Exit → AState → Prop} {s : AState} {e : Exit} {s' : AState}, runF Φ k M s = some (e, s') → Q e s' → MC P G B N M Q s
  | .skip, Q, s, e, s', h, hq => mc_run hΦ .skip h hq
  | .ops l, Q, s, e, s', h, hq => by
    simp only [runF] at h
    split at h
    · rename_i s1 h1
      simp only [Option.some.injEq, Prod.mk.injEq] at h
      obtain ⟨rfl, rfl⟩ := h
      intro c hc hn
      obtain ⟨id, ops, rfl, hl⟩ := comp_cases hc
      exact acode_region (runZ_sound hΦ.sound _ (alike_of_mapM hl) hn h1 hq)
    · cases h
  | .draw l, Q, s, e, s', h, hq => mc_run hΦ (.draw l) h hq
  | .drawG k l, Q, s, e, s', h, hq => by
    simp only [runF] at h
    split at h
    · rename_i s1 h1
      exact mc_run hΦ (.drawG k l) (by simp only [runM, runB_sound l h1]; exact h) hq
    · cases h
  | .seq a b, Q, s, e, s', h, hq => by
    intro c hc hn
    refine mc_seq ?_ c hc hn
    simp only [runF] at h
    split at h
    · rename_i s1 h1
      exact mc_runF hΦ k a h1 ⟨(runF_n k a h1).trans hn, mc_runF hΦ k b h hq⟩
    · rename_i hne
      refine mc_runF hΦ k a h ?_
      cases e
      case normal => exact absurd h (hne s')
      all_goals exact hq
  | .cond c a b, Q, s, e, s', h, hq => by
    simp only [runF] at h
    split at h
    · rename_i t ht
      refine mc_cond ht ?_
      cases t
      · exact mc_runF hΦ k b h hq
      · exact mc_runF hΦ k a h hq
    · cases h
  | .block id b, Q, s, e, s', h, hq => by
    refine mc_block ?_
    simp only [runF] at h
    split at h
    · rename_i i s1 h1
      refine mc_runF hΦ k b h1 ?_
      simp only [inBlock_exit]
      split at h
      · rename_i hid
        rw [if_pos hid]
        simp only [Option.some.injEq, Prod.mk.injEq] at h
        obtain ⟨rfl, rfl⟩ := h
        exact hq
      · rename_i hid
        rw [if_neg hid]
        simp only [Option.some.injEq, Prod.mk.injEq] at h
        obtain ⟨rfl, rfl⟩ := h
        exact hq
    · rename_i hne
      refine mc_runF hΦ k b h ?_
      cases e
      case exit i => exact absurd h (hne i s')
      all_goals exact hq
  | .loop b, Q, s, e, s', h, hq => by
    simp only [runF] at h
    intro c hc hn
    refine mc_loop (fun m s => s.n = N ∧ iterF (fun s => runF Φ k b { s with env := tidyE s.env [] }) m s = some (e, s')) k ⟨hn, h⟩ (fun _ _ h => h.1) ?_ c hc hn
    rintro m s ⟨hsn, hm⟩
    cases m with
    | zero => cases hm
    | succ m =>
      refine MC.sub (sub_tidyE trivial) rfl ?_
      simp only [iterF] at hm
      split at hm
      · rename_i s1 h1
        exact mc_runF hΦ k b h1 ⟨m, by omega, s1, Sub.refl s1, (runF_n k b h1).trans hsn, hm⟩
      · rename_i hne
        refine mc_runF hΦ k b hm ?_
        cases e
        case normal => exact absurd hm (hne s')
        all_goals exact hq
  | .exit id, Q, s, e, s', h, hq => mc_run hΦ (.exit id) h hq
  | .ret, Q, s, e, s', h, hq => mc_run hΦ .ret h hq
  | .scope b, Q, s, e, s', h, hq => by
    refine mc_scope ?_
    simp only [runF] at h
    split at h
    · cases h
    · rename_i hne
      refine mc_runF hΦ k b h ?_
      cases e
      case goto l => exact absurd h (hne l s')
      all_goals exact hq

/-- The functions of a program in compact form. -/
structure FnM where
  k : Nat
  N : Nat
  M : MCode
  vs : List RV

def endZ (s : AState) : AState := match inner s.H with | [] => s | F => s.frz F
def resT (vs : List RV) (s : AState) : Option T := match resM s vs with
  | some ps => match toT s.H (oneOf ps) with
    | some (r, _) => some r
    | none => none
  | none => none
def callNT (tab : List (Nat × FnM)) (rounds : Nat) (Φ : Oracle) (f : FuncId) (args : List T) : Option T :=
  match look tab f with
  | some fm => if args.length = fm.k then
      (match runF Φ rounds fm.M (startM fm.N args) with
      | some (.ret, s) => resT fm.vs (endZ s)
      | _ => none)
    else none
  | none => none

def allUnder (nx : Nat) (H : Heap) : Bool := H.all fun q => decide (q.1 < nx)

def callNH (tab : List (Nat × FnM)) (rounds : Nat) (Φ : Oracle) (f : FuncId) (ps : List PV) (H : Heap) (nx : Nat) : Option (PV × Heap × Nat) :=
  match look tab f with
  | some fm => if ps.length = fm.k then
      (match runF Φ rounds fm.M ⟨startsP 0 ps, H, nx, fm.N⟩ with
      | some (.normal, s) => match resM s fm.vs with
        | some rs => if allUnder s.nx s.H then some (oneOf rs, s.H, s.nx) else none
        | none => none
      | some (.ret, s) => match resM s fm.vs with
        | some rs => if allUnder s.nx s.H then some (oneOf rs, s.H, s.nx) else none
        | none => none
      | _ => none)
    else none
  | none => none

def callN (tab : List (Nat × FnM)) (rounds : Nat) : Nat → Oracle
  | 0 => ⟨fun _ _ => none, fun _ _ _ _ => none⟩
  | n + 1 => ⟨callNT tab rounds (callN tab rounds n), callNH tab rounds (callN tab rounds n)⟩

def TabOK (P : Program) (G : Globs) (tab : List (Nat × FnM)) : Prop := ∀ q ∈ tab, FnOK P G q.1 q.2.k q.2.N q.2.M q.2.vs

theorem sub_endZ (s : AState) : Sub P G B s (endZ s) := by
  unfold endZ
  split
  · exact Sub.refl s
  · exact sub_frz _
theorem callNT_sound (hm : P.follows .mixedOrders = true) {tab : List (Nat × FnM)} (ht : TabOK P G tab) (rounds : Nat) (hΦ : Φ.Sound P G) (f : FuncId) (args : List T) (r : T) (h : callNT tab rounds Φ f args = some r) : CallT P G f args (· = r) := by
  unfold callNT at h
  split at h
  · rename_i fm hf
    split at h
    · rename_i hk
      split at h
      · rename_i s hr
        unfold resT at h
        split at h
        · rename_i ps hps
          split at h
          · rename_i r' F hT
            injection h with h; subst h
            refine (ht _ (mem_of_look hf)).call hk fun c hc hn => ?_
            exact (mc_runF (Q := fun e s1 => e = .ret ∧ s1 = s) ⟨hm, hΦ⟩ rounds fm.M hr ⟨rfl, rfl⟩ c hc hn).post fun e s1 hq => ⟨endZ s1, sub_endZ s1, by
              obtain ⟨rfl, rfl⟩ := hq
              exact ⟨.inr rfl, ps, r', F, hps, hT, rfl⟩⟩
          · cases h
        · cases h
      · cases h
    · cases h
  · cases h

theorem look_all {nx : Nat} {H : Heap} (h : allUnder nx H = true) (b : Nat) (x : Row) (hb : look H b = some x) : b < nx := by
  have := List.all_eq_true.1 h _ (mem_of_look hb)
  simpa using this

theorem callNH_sound (hm : P.follows .mixedOrders = true) {tab : List (Nat × FnM)} (ht : TabOK P G tab) (rounds : Nat) (hΦ : Φ.Sound P G) (f : FuncId) (ps : List PV) (H : Heap) (nx : Nat) (r : PV) (H' : Heap) (nx' : Nat)
    (h : callNH tab rounds Φ f ps H nx = some (r, H', nx')) : CallP P G f ps H nx r H' nx' ∧ ∀ b x, look H' b = some x → b < nx' := by
  unfold callNH at h
  split at h
  · rename_i fm hf
    split at h
    · rename_i hk
      split at h
      · rename_i s hr
        split at h
        · rename_i rs hps
          split at h
          · rename_i ha
            injection h with h; injection h with h1 h2; injection h2 with h2 h3; subst h1; subst h2; subst h3
            exact ⟨(ht _ (mem_of_look hf)).callP hk (mc_runF ⟨hm, hΦ⟩ rounds fm.M hr ⟨.inl rfl, s, rs, Sub.refl s, hps, rfl, rfl, rfl⟩), look_all ha⟩
          · cases h
        · cases h
      · rename_i s hr
        split at h
        · rename_i rs hps
          split at h
          · rename_i ha
            injection h with h; injection h with h1 h2; injection h2 with h2 h3; subst h1; subst h2; subst h3
            exact ⟨(ht _ (mem_of_look hf)).callP hk (mc_runF ⟨hm, hΦ⟩ rounds fm.M hr ⟨.inr rfl, s, rs, Sub.refl s, hps, rfl, rfl, rfl⟩), look_all ha⟩
          · cases h
        · cases h
      · cases h
    · cases h
  · cases h

theorem callN_sound (hm : P.follows .mixedOrders = true) {tab : List (Nat × FnM)} (ht : TabOK P G tab) (rounds : Nat) : ∀ n, (callN tab rounds n).Sound P G
  | 0 => ⟨fun _ _ _ h => (by cases h), fun _ _ _ _ _ _ _ h => (by cases h), fun _ _ _ _ _ _ _ h => (by cases h)⟩
  | n + 1 => ⟨fun f args r h => callNT_sound hm ht rounds (callN_sound hm ht rounds n) f args r h, fun f ps H nx r H' nx' h => (callNH_sound hm ht rounds (callN_sound hm ht rounds n) f ps H nx r H' nx' h).1,
      fun f ps H nx r H' nx' h _ => (callNH_sound hm ht rounds (callN_sound hm ht rounds n) f ps H nx r H' nx' h).2⟩
end
end Go.Abs
