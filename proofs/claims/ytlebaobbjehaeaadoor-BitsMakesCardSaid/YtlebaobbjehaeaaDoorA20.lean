/-
  Running whole functions on given data by reckoning ('callN'), with a number that bounds rounds and calls; that what it reckons is what the program returns. No statement of the program stands here.
-/
import Derived.Test.YtlebaobbjehaeaaDoorA19
namespace Go.Abs
set_option linter.unusedSimpArgs false
set_option linter.unusedVariables false
open Go

def iterF (f : AState → Option (Exit × AState)) : Nat → AState → Option (Exit × AState)
  | 0, _ => none
  | k + 1, s => match f s with
    | some (.normal, s') => iterF f k s'
    | r => r

/-- Each slot once. -/
def tidyE : List (Nat × PV) → List Nat → List (Nat × PV)
  | [], _ => []
  | (k, p) :: r, seen => if seen.contains k then tidyE r seen else (k, p) :: tidyE r (k :: seen)

mutual
/-- The rows that a value names. -/
def rowsOf : PV → List Nat
  | .row b _ _ _ => [b]
  | .ptr b _ => [b]
  | .ag cs => rowsOfL cs
  | .tu cs => rowsOfL cs
  | .fn _ a c => rowsOfL a ++ rowsOfL c
  | .ic _ x => rowsOf x
  | .mp b => [b]
  | _ => []
def rowsOfL : List PV → List Nat
  | [] => []
  | p :: ps => rowsOf p ++ rowsOfL ps
end

def rowsOfRow : Row → List Nat
  | .cells _ cs => rowsOfL cs
  | .iter _ _ => []

/-- Rows that nothing names are dropped. -/
def sweep (env : List (Nat × PV)) (H : Heap) : Heap :=
  let used := env.flatMap (fun q => rowsOf q.2) ++ H.flatMap (fun q => rowsOfRow q.2)
  H.filter fun q => used.contains q.1

def tidy (s : AState) : AState :=
  let env := tidyE s.env []
  { s with env := env, H := sweep env s.H }

theorem tidyE_mem : ∀ (l : List (Nat × PV)) (seen : List Nat) q, q ∈ tidyE l seen → look l q.1 = some q.2 ∧ q.1 ∉ seen
  | [], seen, q, h => by simp [tidyE] at h
  | (k, p) :: r, seen, q, h => by
    simp only [tidyE] at h
    split at h
    · rename_i hk
      obtain ⟨h1, h2⟩ := tidyE_mem r seen q h
      have : k ≠ q.1 := fun e => h2 (by rw [← e]; simpa using hk)
      simp [this, h1, h2]
    · rename_i hk
      rcases List.mem_cons.1 h with rfl | h
      · simpa using hk
      · obtain ⟨h1, h2⟩ := tidyE_mem r (k :: seen) q h
        simp only [List.mem_cons, not_or] at h2
        have : k ≠ q.1 := fun e => h2.1 e.symm
        simp [this, h1, h2.2]

/-- No number stands twice. -/
def Uniq (H : Heap) : Prop := ∀ q ∈ H, look H q.1 = some q.2

def runF (Φ : Oracle) (k : Nat) : MCode → AState → Option (Exit × AState)
  | .skip, s => some (.normal, s)
  | .ops l, s => match runL Φ l s with
    | some s1 => some (.normal, s1)
    | none => none
  | .draw l, s => match runD Φ l s with
    | some s1 => some (.normal, s1)
    | none => none
  | .seq a b, s => match runF Φ k a s with
    | some (.normal, s1) => runF Φ k b s1
    | r => r
  | .cond c a b, s => match c.ev s.env with
    | .t (.v (.bool t)) => bif t then runF Φ k a s else runF Φ k b s
    | _ => none
  | .block id b, s => match runF Φ k b s with
    | some (.exit i, s1) => if i = id then some (.normal, s1) else some (.exit i, s1)
    | r => r
  | .loop b, s => iterF (fun s => match runF Φ k b { s with env := tidyE s.env [] } with
    | r => r) k s
  | .exit id, s => some (.exit id, s)
  | .ret, s => some (.ret, s)

section
variable {P : Program} {G : Globs} {B N : Nat} {Φ : Oracle}

theorem runF_n (k : Nat) : ∀ (M : MCode) {s : AState} {e : Exit} {s' : AState}, runF Φ k M s = some (e, s') → s'.n = s.n
  | .skip, s, e, s', h => by simp only [runF, Option.some.injEq, Prod.mk.injEq] at h; rw [h.2]
  | .ops l, s, e, s', h => by
    simp only [runF] at h
    split at h
    · rename_i s1 h1; simp only [Option.some.injEq, Prod.mk.injEq] at h; rw [← h.2, runL_n h1]
    · cases h
  | .draw l, s, e, s', h => by
    simp only [runF] at h
    split at h
    · rename_i s1 h1; simp only [Option.some.injEq, Prod.mk.injEq] at h; rw [← h.2, runD_n h1]
    · cases h
  | .seq a b, s, e, s', h => by
    simp only [runF] at h
    split at h
    · rename_i s1 h1; rw [runF_n k b h, runF_n k a h1]
    · exact runF_n k a h
  | .cond c a b, s, e, s', h => by
    simp only [runF] at h
    split at h
    · rename_i t ht
      cases t
      · exact runF_n k b h
      · exact runF_n k a h
    · cases h
  | .block id b, s, e, s', h => by
    simp only [runF] at h
    split at h
    · rename_i i s1 h1
      split at h
      · simp only [Option.some.injEq, Prod.mk.injEq] at h; rw [← h.2, runF_n k b h1]
      · simp only [Option.some.injEq, Prod.mk.injEq] at h; rw [← h.2, runF_n k b h1]
    · exact runF_n k b h
  | .loop b, s, e, s', h => by
    simp only [runF] at h
    have : ∀ (m : Nat) (s : AState), iterF (fun s => runF Φ k b { s with env := tidyE s.env [] }) m s = some (e, s') → s'.n = s.n := by
      intro m
      induction m with
      | zero => intro s h; cases h
      | succ m ih =>
        intro s h
        simp only [iterF] at h
        split at h
        · rename_i s1 h1; have := runF_n k b h1; rw [ih s1 h, this]
        · have := runF_n k b h; exact this
    exact this k s h
  | .exit id, s, e, s', h => by simp only [runF, Option.some.injEq, Prod.mk.injEq] at h; rw [h.2]
  | .ret, s, e, s', h => by simp only [runF, Option.some.injEq, Prod.mk.injEq] at h; rw [h.2]

theorem sub_tidyE {s : AState} (hu : True) : Sub P G B s { s with env := tidyE s.env [] } := by
  intro L a w hi
  exact ⟨L, ⟨hi.heap, hi.nx, hi.base, hi.size, hi.defers, fun k p h => hi.env k p (tidyE_mem _ _ _ (mem_of_look h)).1⟩, Ext.refl _ _ _, fun _ _ => rfl⟩

theorem mc_runF (hΦ : Ctx P G Φ) (k : Nat) : ∀ (M : MCode) {Q : Exit → AState → Prop} {s : AState} {e : Exit} {s' : AState}, runF Φ k M s = some (e, s') → Q e s' → MC P G B N M Q s
  | .skip, Q, s, e, s', h, hq => mc_run hΦ .skip h hq
  | .ops l, Q, s, e, s', h, hq => mc_run hΦ (.ops l) h hq
  | .draw l, Q, s, e, s', h, hq => mc_run hΦ (.draw l) h hq
  | .seq a b, Q, s, e, s', h, hq => by
    intro c hc hn
    refine mc_seq ?_ c hc hn
    simp only [runF] at h
    split at h
    · rename_i s1 h1
      exact mc_runF hΦ k a h1 ⟨(runF_n k a h1).trans hn, mc_runF hΦ k b h hq⟩
    · rename_i hne
      refine mc_runF hΦ k a h ?_
      cases e
      case normal => exact absurd h (hne s')
      all_goals exact hq
  | .cond c a b, Q, s, e, s', h, hq => by
    simp only [runF] at h
    split at h
    · rename_i t ht
      refine mc_cond ht ?_
      cases t
      · exact mc_runF hΦ k b h hq
      · exact mc_runF hΦ k a h hq
    · cases h
  | .block id b, Q, s, e, s', h, hq => by
    refine mc_block ?_
    simp only [runF] at h
    split at h
    · rename_i i s1 h1
      refine mc_runF hΦ k b h1 ?_
      simp only [inBlock_exit]
      split at h
      · rename_i hid
        rw [if_pos hid]
        simp only [Option.some.injEq, Prod.mk.injEq] at h
        obtain ⟨rfl, rfl⟩ := h
        exact hq
      · rename_i hid
        rw [if_neg hid]
        simp only [Option.some.injEq, Prod.mk.injEq] at h
        obtain ⟨rfl, rfl⟩ := h
        exact hq
    · rename_i hne
      refine mc_runF hΦ k b h ?_
      cases e
      case exit i => exact absurd h (hne i s')
      all_goals exact hq
  | .loop b, Q, s, e, s', h, hq => by
    simp only [runF] at h
    intro c hc hn
    refine mc_loop (fun m s => s.n = N ∧ iterF (fun s => runF Φ k b { s with env := tidyE s.env [] }) m s = some (e, s')) k ⟨hn, h⟩ (fun _ _ h => h.1) ?_ c hc hn
    rintro m s ⟨hsn, hm⟩
    cases m with
    | zero => cases hm
    | succ m =>
      refine MC.sub (sub_tidyE trivial) rfl ?_
      simp only [iterF] at hm
      split at hm
      · rename_i s1 h1
        exact mc_runF hΦ k b h1 ⟨m, by omega, s1, Sub.refl s1, (runF_n k b h1).trans hsn, hm⟩
      · rename_i hne
        refine mc_runF hΦ k b hm ?_
        cases e
        case normal => exact absurd hm (hne s')
        all_goals exact hq
  | .exit id, Q, s, e, s', h, hq => mc_run hΦ (.exit id) h hq
  | .ret, Q, s, e, s', h, hq => mc_run hΦ .ret h hq

/-- The functions of a program in compact form. -/
structure FnM where
  k : Nat
  N : Nat
  M : MCode
  vs : List RV

def callN (tab : List (Nat × FnM)) (rounds : Nat) : Nat → Oracle
  | 0, _, _ => none
  | n + 1, f, args => match look tab f with
    | some fm => if args.length = fm.k then
        (match runF (callN tab rounds n) rounds fm.M (startM fm.N args) with
        | some (.ret, s) => match resM s fm.vs with
          | some ps => match toT s.H (oneOf ps) with
            | some (r, _) => some r
            | none => none
          | none => none
        | _ => none)
      else none
    | none => none

def TabOK (P : Program) (G : Globs) (tab : List (Nat × FnM)) : Prop := ∀ q ∈ tab, FnOK P G q.1 q.2.k q.2.N q.2.M q.2.vs

theorem callN_sound (hm : P.follows .mixedOrders = true) {tab : List (Nat × FnM)} (ht : TabOK P G tab) (rounds : Nat) : ∀ n, (callN tab rounds n).Sound P G
  | 0, f, args, r, h => by cases h
  | n + 1, f, args, r, h => by
    simp only [callN] at h
    split at h
    · rename_i fm hf
      split at h
      · rename_i hk
        split at h
        · rename_i s hr
          split at h
          · rename_i ps hps
            split at h
            · rename_i r' F hT
              injection h with h; subst h
              exact (ht _ (mem_of_look hf)).call hk (mc_runF ⟨hm, callN_sound hm ht rounds n⟩ rounds fm.M hr ⟨.inr rfl, ps, r', F, hps, hT, rfl⟩)
            · cases h
          · cases h
        · cases h
      · cases h
    · cases h
end
end Go.Abs
