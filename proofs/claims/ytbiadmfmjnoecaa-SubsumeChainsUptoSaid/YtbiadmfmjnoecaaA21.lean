/-
  From the logic to a row's own words: slices of integers that came in are trees; a contract that says 'true' gives the walk's end, nothing below having changed. No statement of the program stands here.
-/
import Derived.Test.YtbiadmfmjnoecaaA9
import Derived.ChangeSlices
import Derived.Below
import Derived.WalkKit
import Derived.ProofKit
import Derived.OpenShut
import Derived.Lib.LaidTab
namespace Go.Abs
set_option linter.unusedSimpArgs false
set_option linter.unusedVariables false
open Go Go.ChangeShapes Go.WideShapes Go.ChangeAt Go.RowKit

def Old (w : World) (b : Nat) : Prop := b < w.heap.size

theorem cell_lt {w : World} {a : Addr} {x : Value} (h : w.cell? a = some x) : a.block < w.heap.size := by
  unfold World.cell? at h
  cases hh : w.heap[a.block]? with
  | none => simp [hh] at h
  | some b => exact (Array.getElem?_eq_some_iff.1 hh).1

/-- What a slice of integers is, as a tree. -/
def IntsT (k : IntKind) (t : T) (zs : List Int) : Prop :=
  zs.length ≤ maxLen ∧ (∀ n ∈ zs, (Lit.int k n).wf = true) ∧ ((t = .v (.slice none 0 0) ∧ zs = []) ∨ t = .sl zs.length (zs.map fun n => .v (.int k n)))

theorem read_ints {H : Type} {enc : TypeId × Value → H} {P : Program} {W : World} {spare : Nat → Bool} {held : Bool} {t e : TypeId} {k : IntKind} {a : Option Addr} {len cap : Nat} {d : DataW H} {p : List MemPlace}
    (ht : P.underlying t = some (.slice e)) (he : P.underlying e = some (.int k)) (hc : P.cellsOf e = 1)
    (h : DataW.Trod enc P W 0 spare held t (.slice a len cap) d p) : ∃ x zs, IntsT k x zs ∧ RepT (Old W) W x (.slice a len cap) := by
  obtain ⟨fuel, hf⟩ := h
  rcases open_ints ht he hc hf with ⟨hcs, _⟩ | ⟨x, l, c, zs, hcs, _, hl, hm, hz, _, hcell, hwz⟩
  · simp [Value.cells] at hcs
    obtain ⟨rfl, rfl, rfl⟩ := hcs
    exact ⟨.v (.slice none 0 0), [], ⟨by simp, by simp, .inl ⟨rfl, rfl⟩⟩, by simp only [RepT]⟩
  · simp [Value.cells] at hcs
    obtain ⟨rfl, rfl, rfl⟩ := hcs
    have hlz : len ≤ zs.length := by rw [hz]; split <;> omega
    refine ⟨.sl (zs.take len).length ((zs.take len).map fun n => .v (.int k n)), zs.take len, ⟨by simp; omega, fun n hn => hwz n (List.mem_of_mem_take hn), .inr rfl⟩, ?_⟩
    simp only [RepT, List.length_take, Nat.min_eq_left hlz]
    refine ⟨x, cap, rfl, hl, ?_⟩
    by_cases h0 : len = 0
    · left; subst h0; simp
    · right
      have c0 := hcell 0 (by omega)
      have hs : x.spot = none := by simpa [Addr.add] using World.cell?_spot c0
      refine ⟨hs, by simpa [Addr.add, Old] using cell_lt c0, RepC.mk fun j c hj => ?_⟩
      simp only [List.getElem?_map, Option.map_eq_some_iff] at hj
      obtain ⟨n, hn, rfl⟩ := hj
      have hj : j < len := by
        have := (List.getElem?_eq_some_iff.1 hn).1
        simp at this; omega
      have hn' : zs[j]? = some n := by rw [List.getElem?_take, if_pos hj] at hn; exact hn
      refine ⟨.int k n, ?_, rfl, by simp only [RepT]⟩
      have := hcell j (by omega)
      obtain ⟨xb, xo, xs⟩ := x
      simp only at hs
      subst hs
      cases j with
      | zero => simpa [Addr.add, List.getD_eq_getElem?_getD, hn'] using this
      | succ j => simpa [Addr.add, List.getD_eq_getElem?_getD, hn'] using this

theorem CallT.true {P : Program} {G : Globs} {f : FuncId} {ts : List T} {W : World} {us : Array Value} (h : CallT P G f ts (· = .v (.bool true)))
    (hG : ∀ g cs, look G g = some cs → Old W g ∧ RepC (Old W) W cs g 0) (hr : RepL (Old W) W ts us.toList) :
    Calls P f us W fun e w' => e = .returned (.bool true) ∧ Below W.heap.size W w' := by
  refine (h.2 (Old W) W us (fun _ hb => hb) hG hr).mono fun e w' ⟨v, r, I', he, hR, hv, ho, hs, hsame, _⟩ => ?_
  subst hR
  simp only [RepT] at hv
  subst hv
  exact ⟨he, ⟨ho.1, ho.2.1, ho.2.2, hs, hsame⟩⟩

theorem glob_tab {P : Program} {W : World} {name : String} {k : IntKind} {zs : List Int} {g : Nat} (h : Lib.TabIs P W name k zs) (hg : P.globalNamed name = some g) (h0 : 0 < zs.length) : Old W g ∧ RepC (Old W) W (zs.map fun n => .v (.int k n)) g 0 := by
  refine ⟨cell_lt (h.cell hg 0 h0), RepC.mk fun j c hj => ?_⟩
  simp only [List.getElem?_map, Option.map_eq_some_iff] at hj
  obtain ⟨n, hn, rfl⟩ := hj
  have hj := (List.getElem?_eq_some_iff.1 hn).1
  have := h.cell hg j hj
  simp only [List.getD_eq_getElem?_getD, hn, Option.getD_some] at this
  exact ⟨.int k n, by simpa using this, rfl, by simp only [RepT]⟩

end Go.Abs
