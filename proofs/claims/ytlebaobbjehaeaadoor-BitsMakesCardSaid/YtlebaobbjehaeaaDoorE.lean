/-
  Sets of words as trees: how they are written and read. No statement of the program stands here.
-/
import Derived.Test.YtlebaobbjehaeaaDoorM
import Derived.IntWalk
namespace Go.Proofs.YtlebaobbjehaeaaDoor
set_option linter.unusedSimpArgs false
set_option linter.unusedVariables false
open Go Go.Abs

theorem mixed : Tryd.prog.follows .mixedOrders = true := by kernel_rfl
abbrev W := BitVec 64

def uv (x : W) : T := .v (.int .u64 (x.toNat : Int))
def nilT : T := .v (.slice none 0 0)
def encB (l : List W) : T := .sl l.length (l.map uv)

def decU : T → Option W
  | .v (.int .u64 n) => if 0 ≤ n ∧ n < 18446744073709551616 then some (BitVec.ofNat 64 n.toNat) else none
  | _ => none

def decUs : List T → Option (List W)
  | [] => some []
  | t :: ts => match decU t, decUs ts with
    | some x, some xs => some (x :: xs)
    | _, _ => none

def decB : T → Option (List W)
  | .v (.slice none 0 0) => some []
  | .sl n cs => if n = cs.length then decUs cs else none
  | _ => none

theorem decU_some {t : T} {x : W} (h : decU t = some x) : t = uv x := by
  unfold decU at h
  split at h
  · rename_i n
    split at h
    · rename_i hn
      injection h with h
      subst h
      unfold uv
      rw [BitVec.toNat_ofNat, Nat.mod_eq_of_lt (by omega)]
      congr 2
      omega
    · cases h
  · cases h

theorem decU_uv (x : W) : decU (uv x) = some x := by
  unfold uv decU
  have := x.isLt
  simp only
  rw [if_pos ⟨by omega, by omega⟩]
  simp

theorem decUs_some : ∀ {ts : List T} {xs : List W}, decUs ts = some xs → ts = xs.map uv
  | [], xs, h => by simp only [decUs, Option.some.injEq] at h; simp [← h]
  | t :: ts, xs, h => by
    simp only [decUs] at h
    split at h
    · rename_i x xs' hx hxs
      injection h with h; subst h
      simp [decU_some hx, decUs_some hxs]
    · cases h

theorem decUs_map : ∀ (xs : List W), decUs (xs.map uv) = some xs
  | [] => rfl
  | x :: xs => by simp only [List.map_cons, decUs, decU_uv, decUs_map xs]

theorem decB_encB (l : List W) : decB (encB l) = some l := by
  unfold encB decB
  simp [decUs_map]

theorem decB_nil : decB nilT = some [] := rfl

theorem decB_cases {t : T} {l : List W} (h : decB t = some l) : (t = nilT ∧ l = []) ∨ t = encB l := by
  unfold decB at h
  split at h
  · injection h with h; exact .inl ⟨rfl, h.symm⟩
  · rename_i n cs
    split at h
    · rename_i hn
      have := decUs_some h
      subst this
      right
      unfold encB
      simp at hn
      rw [hn]
    · cases h
  · cases h

section
variable {t : T} {l : List W}

theorem len_dec (h : decB t = some l) : lenslM (.t t) = some (.t (.v (.int .i64 (l.length : Int)))) := by
  rcases decB_cases h with ⟨rfl, rfl⟩ | rfl
  · rfl
  · rfl

theorem iaddr_dec (h : decB t = some l) (k : IntKind) (i : Int) (h0 : 0 ≤ i) (h1 : i < l.length) : iaddrM 1 (.t t) (.t (.v (.int k i))) = some (.t (.pt ((l.map uv).drop i.toNat))) := by
  rcases decB_cases h with ⟨rfl, rfl⟩ | rfl
  · simp at h1; omega
  · simp only [iaddrM, encB]
    rw [if_pos ⟨h0, h1⟩]
    simp

end

theorem load_drop {l : List W} {i : Nat} {x : W} (H : Heap) (h : l[i]? = some x) : loadM false 1 H (.t (.pt ((l.map uv).drop i))) = some (.t (uv x)) := by
  simp [loadM, h]

end Go.Proofs.YtlebaobbjehaeaaDoor
