/-
  Reckoning with results that are known already ('memo'). No statement of the program stands here.
-/
import Derived.Test.YtbiadmfmjnoecaaA20
namespace Go.Abs
set_option linter.unusedSimpArgs false
set_option linter.unusedVariables false
open Go

abbrev Memo := List (Nat × List T × T)
def Memo.get (m : Memo) (f : Nat) (args : List T) : Option T := match m with
  | [] => none
  | (g, as', r) :: rest => if g = f then (if eqTs as' args then some r else Memo.get rest f args) else Memo.get rest f args
def MemoOK (P : Program) (G : Globs) (m : Memo) : Prop := ∀ q ∈ m, CallT P G q.1 q.2.1 (· = q.2.2)
theorem MemoOK.nil {P : Program} {G : Globs} : MemoOK P G [] := fun _ h => by cases h
theorem MemoOK.cons {P : Program} {G : Globs} {m : Memo} {f : Nat} {as' : List T} {r : T} (h : CallT P G f as' (· = r)) (hm : MemoOK P G m) : MemoOK P G ((f, as', r) :: m) := fun q hq => by
  rcases List.mem_cons.1 hq with rfl | hq
  · exact h
  · exact hm q hq
theorem Memo.get_sound {P : Program} {G : Globs} : ∀ {m : Memo} {f : Nat} {args : List T} {r : T}, MemoOK P G m → m.get f args = some r → CallT P G f args (· = r)
  | [], f, args, r, _, h => by cases h
  | (g, as', r0) :: rest, f, args, r, hm, h => by
    have hr : MemoOK P G rest := fun q hq => hm q (List.mem_cons_of_mem _ hq)
    simp only [Memo.get] at h
    split at h
    · rename_i hg
      split at h
      · rename_i ha
        injection h with h
        subst h; subst hg
        rw [← eqTs_eq _ _ ha]
        exact hm (g, as', r0) List.mem_cons_self
      · exact Memo.get_sound hr h
    · exact Memo.get_sound hr h

def callM' (tab : List (Nat × FnM)) (memo : Memo) (rounds : Nat) : Nat → Oracle
  | 0 => ⟨memo.get, fun _ _ _ _ => none⟩
  | n + 1 => ⟨fun f args => match memo.get f args with
      | some r => some r
      | none => callNT tab rounds (callM' tab memo rounds n) f args, callNH tab rounds (callM' tab memo rounds n)⟩
theorem callM'_sound {P : Program} {G : Globs} (hm : P.follows .mixedOrders = true) {tab : List (Nat × FnM)} (ht : TabOK P G tab) {memo : Memo} (hme : MemoOK P G memo) (rounds : Nat) : ∀ n, (callM' tab memo rounds n).Sound P G
  | 0 => ⟨fun _ _ _ h => Memo.get_sound hme h, fun _ _ _ _ _ _ _ h => (by cases h), fun _ _ _ _ _ _ _ h => (by cases h)⟩
  | n + 1 => ⟨fun f args r h => by
      simp only [callM'] at h
      split at h
      · rename_i r' hr
        injection h with h
        subst h
        exact Memo.get_sound hme hr
      · exact callNT_sound hm ht rounds (callM'_sound hm ht hme rounds n) f args r h,
      fun f ps H nx r H' nx' h => (callNH_sound hm ht rounds (callM'_sound hm ht hme rounds n) f ps H nx r H' nx' h).1,
      fun f ps H nx r H' nx' h _ => (callNH_sound hm ht rounds (callM'_sound hm ht hme rounds n) f ps H nx r H' nx' h).2⟩
end Go.Abs
