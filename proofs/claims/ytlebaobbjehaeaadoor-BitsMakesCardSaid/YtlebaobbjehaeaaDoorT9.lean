/-
  How many bits a set has, counted in two ways; the contracts of Count.
-/
import Derived.Test.YtlebaobbjehaeaaDoorT8
namespace Go.Proofs.YtlebaobbjehaeaaDoor
set_option linter.unusedSimpArgs false
set_option linter.unusedVariables false
open Go Go.Abs

theorem sum_digs2 : ∀ (n x : Nat), (digs 2 n x).sum = ((List.range n).filter fun i => x.testBit i).length
  | 0, x => rfl
  | n + 1, x => by
    rw [digs, List.sum_cons, sum_digs2 n (x / 2), List.range_succ_eq_map, List.filter_cons, List.filter_map]
    have e : ((fun i => x.testBit i) ∘ Nat.succ) = fun i => (x / 2).testBit i := by funext i; simp [Nat.testBit_succ]
    rw [e, Nat.testBit_zero]
    rcases Nat.mod_two_eq_zero_or_one x with h | h <;> simp [h] <;> omega

theorem popc_bits (x : W) : popc x.toNat = ((List.range 64).filter fun i => x.getLsbD i).length := sum_digs2 64 x.toNat

theorem els_word (l : List W) (k : Nat) : ∀ r, r ≤ 64 → (els l (64 * k + r)).length = (els l (64 * k)).length + ((List.range r).filter fun i => (wd l k).getLsbD i).length
  | 0, _ => by simp
  | r + 1, h => by
    have ih := els_word l k r (by omega)
    have hh : hasL l (64 * k + r) = (wd l k).getLsbD r := by
      unfold hasL
      rw [show (64 * k + r) / 64 = k by omega, show (64 * k + r) % 64 = r by omega]
    rw [← Nat.add_assoc, els_succ, List.length_append, ih, hh, List.range_succ, List.filter_append, List.length_append]
    cases h : (wd l k).getLsbD r <;> simp [h, Nat.add_assoc]

theorem els_cnt (l : List W) : ∀ k, k ≤ l.length → (els l (64 * k)).length = cntUpTo l k
  | 0, _ => by simp [els, cntUpTo]
  | k + 1, h => by
    have hx : l[k]? = some (wd l k) := by simp [wd, show k < l.length by omega]
    rw [cntUpTo_succ hx, ← els_cnt l k (by omega), popc_bits, show 64 * (k + 1) = 64 * k + 64 by omega, els_word l k 64 (by omega)]

theorem els_all (l : List W) : (els l (64 * l.length)).length = cnt l := by rw [els_cnt l l.length (Nat.le_refl _), cntUpTo_all]

/-- A contract of a function of one set. -/
def g1 (f : List W → T) : List T → Option T
  | [a] => match decB a with
    | some l => if l.length ≤ 1000 then some (f l) else none
    | none => none
  | _ => none
theorem g1_ok {F : Nat} {f : List W → T} (h : ∀ {a : T} {l : List W}, decB a = some l → l.length ≤ 1000 → CallT Tryd.prog G F [a] (· = f l)) : GOK Tryd.prog G F (g1 f) := by
  intro args r e
  unfold g1 at e
  split at e
  · split at e
    · rename_i l ha
      split at e
      · rename_i hl
        injection e with e; subst e
        exact h ha hl
      · cases e
    · cases e
  · cases e
theorem g1_eq {f : List W → T} {a : T} {l : List W} (ha : decB a = some l) (hl : l.length ≤ 1000) : g1 f [a] = some (f l) := by
  simp [g1, ha, hl]

def fCnt (l : List W) : T := .v (.int .i64 (cnt l : Int))
def fEls (l : List W) : T := treeL iv (els l (64 * l.length))
theorem len_treeL {α : Type} (e : α → T) (l : List α) : lenslM (.t (treeL e l)) = some (.t (.v (.int .i64 (l.length : Int)))) := by
  cases l <;> rfl

theorem rcount_call {t : T} {l : List W} (ht : decB t = some l) (hl : l.length ≤ 1000) : CallT Tryd.prog G 28 [t] (· = fCnt l) := by
  have ok : TblOK Tryd.prog G [(14, g1 fEls)] := .cons (g1_ok rlist_call) .nil
  refine k28.runs (ok.ctx mixed) rfl ?_
  have e1 := g1_eq (f := fEls) ht hl
  have e2 := len_treeL iv (els l (64 * l.length))
  rw [els_all] at e2
  simp -implicitDefEqProofs [M28, e1, fEls, e2, fCnt]

def tb8 : Tbl := [(21, gHas), (22, gHas), (23, g2 fSub), (24, g2 fSub), (25, g2 fEq), (26, g2 fEq), (27, g1 fCnt), (28, g1 fCnt), (8, g0), (11, g2 fSame), (15, g2 fAnd), (17, g2 fOr), (19, g2 fMinus)]
theorem tb8_ok : TblOK Tryd.prog G tb8 :=
  .cons (gHas_ok has_call has_neg) <| .cons (gHas_ok rhas_call rhas_neg) <| .cons (g2_ok sub_call) <| .cons (g2_ok rsub_call) <| .cons (g2_ok eq_call) <| .cons (g2_ok req_call) <|
  .cons (g1_ok count_call) <| .cons (g1_ok rcount_call) <| .cons example_ok <| .cons (g2_ok same_call) <| .cons (g2_ok and_call) <| .cons (g2_ok or_call) <| .cons (g2_ok minus_call) .nil
theorem ctx8 : Ctx Tryd.prog G (orc tb8) := tb8_ok.ctx mixed
end Go.Proofs.YtlebaobbjehaeaaDoor
