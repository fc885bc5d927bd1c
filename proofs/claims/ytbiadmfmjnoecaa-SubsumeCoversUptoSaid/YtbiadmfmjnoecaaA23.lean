/-
  Reckoning with results that are known already ('memo'). No statement of the program stands here.
-/
import Derived.Test.YtbiadmfmjnoecaaA20
namespace Go.Abs
set_option linter.unusedSimpArgs false
set_option linter.unusedVariables false
open Go

def eqV : Value → Value → Bool
  | .int k a, .int k' b => decide (k = k') && (a == b)
  | .bool a, .bool b => a == b
  | .string a, .string b => a.data.toList == b.data.toList
  | .slice none 0 0, .slice none 0 0 => true
  | _, _ => false
theorem eqV_eq {a b : Value} (h : eqV a b = true) : a = b := by
  unfold eqV at h
  split at h
  · simp only [Bool.and_eq_true, decide_eq_true_eq, beq_iff_eq] at h
    rw [h.1, h.2]
  · simp at h; rw [h]
  · rename_i a b
    simp only [beq_iff_eq] at h
    have : a = b := by
      cases a; cases b
      congr
      exact Array.toList_inj.1 h
    rw [this]
  · rfl
  · cases h
mutual
def eqT : T → T → Bool
  | .v a, .v b => eqV a b
  | .sl n l, .sl m r => (n == m) && eqTs l r
  | .ag l, .ag r => eqTs l r
  | .tu l, .tu r => eqTs l r
  | _, _ => false
def eqTs : List T → List T → Bool
  | [], [] => true
  | a :: l, b :: r => eqT a b && eqTs l r
  | _, _ => false
end
mutual
theorem eqT_eq : ∀ (a b : T), eqT a b = true → a = b
  | .v a, .v b, h => by simp only [eqT] at h; rw [eqV_eq h]
  | .sl n l, .sl m r, h => by
    simp only [eqT, Bool.and_eq_true, beq_iff_eq] at h
    rw [h.1, eqTs_eq l r h.2]
  | .ag l, .ag r, h => by simp only [eqT] at h; rw [eqTs_eq l r h]
  | .tu l, .tu r, h => by simp only [eqT] at h; rw [eqTs_eq l r h]
  | .v _, .sl _ _, h => by simp [eqT] at h
  | .v _, .ag _, h => by simp [eqT] at h
  | .v _, .tu _, h => by simp [eqT] at h
  | .v _, .pt _, h => by simp [eqT] at h
  | .sl _ _, .v _, h => by simp [eqT] at h
  | .sl _ _, .ag _, h => by simp [eqT] at h
  | .sl _ _, .tu _, h => by simp [eqT] at h
  | .sl _ _, .pt _, h => by simp [eqT] at h
  | .ag _, .v _, h => by simp [eqT] at h
  | .ag _, .sl _ _, h => by simp [eqT] at h
  | .ag _, .tu _, h => by simp [eqT] at h
  | .ag _, .pt _, h => by simp [eqT] at h
  | .tu _, .v _, h => by simp [eqT] at h
  | .tu _, .sl _ _, h => by simp [eqT] at h
  | .tu _, .ag _, h => by simp [eqT] at h
  | .tu _, .pt _, h => by simp [eqT] at h
  | .pt _, _, h => by simp [eqT] at h
theorem eqTs_eq : ∀ (a b : List T), eqTs a b = true → a = b
  | [], [], _ => rfl
  | a :: l, b :: r, h => by
    simp only [eqTs, Bool.and_eq_true] at h
    rw [eqT_eq a b h.1, eqTs_eq l r h.2]
  | [], _ :: _, h => by simp [eqTs] at h
  | _ :: _, [], h => by simp [eqTs] at h
end

abbrev Memo := List (Nat × List T × T)
def Memo.get (m : Memo) (f : Nat) (args : List T) : Option T := match m with
  | [] => none
  | (g, as', r) :: rest => if g = f then (if eqTs as' args then some r else Memo.get rest f args) else Memo.get rest f args
def MemoOK (P : Program) (G : Globs) (m : Memo) : Prop := ∀ q ∈ m, CallT P G q.1 q.2.1 (· = q.2.2)
theorem MemoOK.nil {P : Program} {G : Globs} : MemoOK P G [] := fun _ h => by cases h
theorem MemoOK.cons {P : Program} {G : Globs} {m : Memo} {f : Nat} {as' : List T} {r : T} (h : CallT P G f as' (· = r)) (hm : MemoOK P G m) : MemoOK P G ((f, as', r) :: m) := fun q hq => by
  rcases List.mem_cons.1 hq with rfl | hq
  · exact h
  · exact hm q hq
theorem Memo.get_sound {P : Program} {G : Globs} : ∀ {m : Memo} {f : Nat} {args : List T} {r : T}, MemoOK P G m → m.get f args = some r → CallT P G f args (· = r)
  | [], f, args, r, _, h => by cases h
  | (g, as', r0) :: rest, f, args, r, hm, h => by
    have hr : MemoOK P G rest := fun q hq => hm q (List.mem_cons_of_mem _ hq)
    simp only [Memo.get] at h
    split at h
    · rename_i hg
      split at h
      · rename_i ha
        injection h with h
        subst h; subst hg
        rw [← eqTs_eq _ _ ha]
        exact hm (g, as', r0) List.mem_cons_self
      · exact Memo.get_sound hr h
    · exact Memo.get_sound hr h

def callM' (tab : List (Nat × FnM)) (memo : Memo) (rounds : Nat) : Nat → Oracle
  | 0 => ⟨memo.get, fun _ _ _ _ => none⟩
  | n + 1 => ⟨fun f args => match memo.get f args with
      | some r => some r
      | none => callNT tab rounds (callM' tab memo rounds n) f args, callNH tab rounds (callM' tab memo rounds n)⟩
theorem callM'_sound {P : Program} {G : Globs} (hm : P.follows .mixedOrders = true) {tab : List (Nat × FnM)} (ht : TabOK P G tab) {memo : Memo} (hme : MemoOK P G memo) (rounds : Nat) : ∀ n, (callM' tab memo rounds n).Sound P G
  | 0 => ⟨fun _ _ _ h => Memo.get_sound hme h, fun _ _ _ _ _ _ _ h => (by cases h), fun _ _ _ _ _ _ _ h => (by cases h)⟩
  | n + 1 => ⟨fun f args r h => by
      simp only [callM'] at h
      split at h
      · rename_i r' hr
        injection h with h
        subst h
        exact Memo.get_sound hme hr
      · exact callNT_sound hm ht rounds (callM'_sound hm ht hme rounds n) f args r h,
      fun f ps H nx r H' nx' h => (callNH_sound hm ht rounds (callM'_sound hm ht hme rounds n) f ps H nx r H' nx' h).1,
      fun f ps H nx r H' nx' h _ => (callNH_sound hm ht rounds (callM'_sound hm ht hme rounds n) f ps H nx r H' nx' h).2⟩
end Go.Abs
