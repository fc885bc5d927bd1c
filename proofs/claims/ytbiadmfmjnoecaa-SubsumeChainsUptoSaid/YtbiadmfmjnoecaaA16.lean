/-
  A function's compact code in one word ('FnOK'), and its contract from it. No statement of the program stands here.
-/
import Derived.Test.YtbiadmfmjnoecaaA15
import Derived.KernelRfl
namespace Go.Abs
set_option linter.unusedSimpArgs false
set_option linter.unusedVariables false
open Go

/-- Function f takes k arguments and has the compact code M over N slots, its results in vs. -/
def FnOK (P : Program) (G : Globs) (f : FuncId) (k N : Nat) (M : MCode) (vs : List RV) : Prop :=
  ∃ fn, P.funcs[f]? = some fn ∧ (fn.name == "runtime.NumGoroutine") = false ∧ fn.body.bind (comp P G N) = some M ∧ fn.results.toList.mapM (compRV P) = some vs ∧ k + (fn.ntmps - k) = N

theorem FnOK.call {P : Program} {G : Globs} {f : FuncId} {k N : Nat} {M : MCode} {vs : List RV} (h : FnOK P G f k N M vs) {args : List T} (hk : args.length = k) {R : T → Prop}
    (hm : MC P G 0 N M (EndsM vs R) (startM N args)) : CallT P G f args R := by
  obtain ⟨fn, hf, hn, hb, hr, hN⟩ := h
  cases hbody : fn.body with
  | none => rw [hbody] at hb; cases hb
  | some c =>
    rw [hbody] at hb
    exact callM hf hbody hn hb hr (by rw [hk]; exact hN) hm

theorem FnOK.callP {P : Program} {G : Globs} {f : FuncId} {k N : Nat} {M : MCode} {vs : List RV} (h : FnOK P G f k N M vs) {ps : List PV} {H H' : Heap} {nx nx' : Nat} {r : PV} (hk : ps.length = k)
    (hm : MC P G nx N M (EndsP P G nx vs fun r0 H0 nx0 => r0 = r ∧ H0 = H' ∧ nx0 = nx') ⟨startsP 0 ps, H, nx, N⟩) : CallP P G f ps H nx r H' nx' := by
  obtain ⟨fn, hf, hn, hb, hr, hN⟩ := h
  cases hbody : fn.body with
  | none => rw [hbody] at hb; cases hb
  | some c =>
    rw [hbody] at hb
    exact callMP hf hbody hn hb hr (by rw [hk]; exact hN) hm

/-- A body without loops: run it. -/
theorem FnOK.run {P : Program} {G : Globs} {Φ : Oracle} {f : FuncId} {k N : Nat} {M : MCode} {vs : List RV} (h : FnOK P G f k N M vs) (hΦ : Ctx P G Φ) {args : List T} (hk : args.length = k) {R : T → Prop} {e : Exit} {s : AState}
    (hm : runM Φ M (startM N args) = some (e, s)) (he : EndsM vs R e s) : CallT P G f args R :=
  h.call hk (mc_run hΦ M hm he)
end Go.Abs
