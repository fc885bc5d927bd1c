/-
  Reading slices that lie in rows; lists that are worked off. No statement of the program stands here.
-/
import Derived.Test.YtbiadmfmjnoecaaB3
namespace Go.Abs
set_option linter.unusedSimpArgs false
set_option linter.unusedVariables false
open Go
section
variable {α : Type} {e : Enc α} {ty b : Nat} {H : Heap} {l : List α}

theorem iaddr_rowP {i : Nat} {x : α} (hx : l[i]? = some x) (k : IntKind) : iaddrM e.z (rowP e b l) (.t (.v (.int k (i : Int)))) = some (.ptr b (i * e.z)) := by
  have hi : i < l.length := (List.getElem?_eq_some_iff.1 hx).1
  cases l with
  | nil => simp at hi
  | cons a r =>
    simp only [rowP, iaddrM]
    rw [if_pos ⟨by omega, by omega⟩]
    simp

theorem RowAt.load (h : RowAt e ty H b l) {i off : Nat} {x : α} {c : T} (hx : l[i]? = some x) (hc : (e.enc x)[off]? = some c) : loadM false 1 H (.ptr b (i * e.z + off)) = some (.t c) := by
  have hi : i < l.length := (List.getElem?_eq_some_iff.1 hx).1
  rcases h with h | h
  · subst h; simp at hi
  · simp only [loadM, h, rowOf, Bool.false_eq_true, if_false]
    have hd := flat_drop e l i x hx
    have : (l.flatMap e.enc)[i * e.z + off]? = some c := by
      rw [← List.getElem?_drop, hd, List.getElem?_append_left (by have := (List.getElem?_eq_some_iff.1 hc).1; exact this)]
      exact hc
    simp [this]

theorem RowAt.loadAg (h : RowAt e ty H b l) {i : Nat} {x : α} (hx : l[i]? = some x) : loadM true e.z H (.ptr b (i * e.z)) = some (.t (.ag (e.enc x))) := by
  have hi : i < l.length := (List.getElem?_eq_some_iff.1 hx).1
  rcases h with h | h
  · subst h; simp at hi
  · have hd := flat_drop e l i x hx
    have hlen : i * e.z + e.z ≤ (l.flatMap e.enc).length := by
      rw [length_flat, ← Nat.succ_mul]
      exact Nat.mul_le_mul_right _ hi
    have hseg : ((l.flatMap e.enc).map PV.t |>.drop (i * e.z)).take e.z = (e.enc x).map .t := by
      rw [← List.map_drop, hd, ← List.map_take, ← e.len x, List.take_left']
      rfl
    simp only [loadM, h, rowOf, if_true, List.length_map, hlen, hseg, agOf, allT_map_t]
end

/-! Working off a list. -/
section
variable {α : Type}
def workF (next : α → List α → List α) : Nat → Nat → List α → List α
  | 0, _, todo => todo
  | f + 1, i, todo => match todo[i]? with
    | none => todo
    | some s => workF next f (i + 1) (next s todo)

/-- What the loop keeps: n bounds the list. -/
structure Work (next : α → List α → List α) (In : α → Prop) (n : Nat) (start : List α) (i : Nat) (todo : List α) : Prop where
  nodup : todo.Nodup
  mem : ∀ s ∈ todo, In s
  le : i ≤ todo.length
  eq : workF next (n + 1 - i) i todo = workF next (n + 1) 0 start

theorem Work.stop {next : α → List α → List α} {In : α → Prop} {n : Nat} {start : List α} {i : Nat} {todo : List α} (h : Work next In n start i todo) (he : i = todo.length) : workF next (n + 1) 0 start = todo := by
  rw [← h.eq]
  cases hn : n + 1 - i with
  | zero => rfl
  | succ f =>
    have : todo[i]? = none := by rw [he]; simp
    simp only [workF, this]

theorem Work.step {next : α → List α → List α} {In : α → Prop} {n : Nat} {start : List α} {i : Nat} {todo todo' : List α} {s : α} (h : Work next In n start i todo) (hs : todo[i]? = some s) (hn : todo.length ≤ n)
    (he : todo' = next s todo) (hd : todo'.Nodup) (hm : ∀ s ∈ todo', In s) (hl : todo.length ≤ todo'.length) : Work next In n start (i + 1) todo' := by
  have hi := (List.getElem?_eq_some_iff.1 hs).1
  refine ⟨hd, hm, by omega, ?_⟩
  rw [← h.eq, show n + 1 - i = (n + 1 - (i + 1)) + 1 by omega]
  simp only [workF, hs]
  rw [he]
end
end Go.Abs
