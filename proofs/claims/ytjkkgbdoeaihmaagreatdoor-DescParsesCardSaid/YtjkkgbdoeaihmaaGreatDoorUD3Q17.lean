/-
 Auxiliary facts. No statement of the program stands here.
-/
import Derived.Test.YtjkkgbdoeaihmaaGreatDoorUD3Q06
import Derived.ChangeSlices
import Derived.Below
import Derived.WalkKit
import Derived.ProofKit
import Derived.OpenShut
import Derived.Lib.LaidTab
namespace Go.Abs
set_option linter.unusedSimpArgs false
set_option linter.unusedVariables false
open Go Go.ChangeShapes Go.WideShapes Go.ChangeAt Go.RowKit
def Old (w : World) (b : Nat) : Prop := b < w.heap.size
theorem E3h {w : World} {a : Addr} {x : Value} (h : w.cell? a = some x) : a.block < w.heap.size := by
 unfold World.cell? at h
 cases hh : w.heap[a.block]? with
 | none => simp [hh] at h
 | some b => exact (Array.getElem?_eq_some_iff.1 hh).1
def IntsT (k : IntKind) (t : T) (zs : List Int) : Prop :=
 zs.length <= maxLen /\ (∀ n ∈ zs, (Lit.int k n).wf = true) /\ ((t = .v (.slice none 0 0) /\ zs = []) \/ t = .sl zs.length (zs.map fun n => .v (.int k n)))
theorem E5h {H : Type} {enc : TypeId × Value -> H} {P : Program} {W : World} {spare : Nat -> Bool} {held : Bool} {t e : TypeId} {k : IntKind} {a : Option Addr} {len cap : Nat} {d : DataW H} {p : List MemPlace}
  (ht : P.underlying t = some (.slice e)) (he : P.underlying e = some (.int k)) (hc : P.cellsOf e = 1)
  (h : DataW.Trod enc P W 0 spare held t (.slice a len cap) d p) : ∃ x zs, IntsT k x zs /\ RepT (Old W) W x (.slice a len cap) := by
 obtain ⟨fuel, hf⟩ := h
 rcases open_ints ht he hc hf with ⟨hcs, _⟩ | ⟨x, l, c, zs, hcs, _, hl, hm, hz, _, hcell, hwz⟩
 ·simp [Value.cells] at hcs
  obtain ⟨rfl, rfl, rfl⟩ := hcs
  exact ⟨.v (.slice none 0 0), [], ⟨by simp, by simp, .inl ⟨rfl, rfl⟩⟩, by simp only [RepT]⟩
 ·simp [Value.cells] at hcs
  obtain ⟨rfl, rfl, rfl⟩ := hcs
  have hlz : len <= zs.length := by rw [hz]; split <;> omega
  refine ⟨.sl (zs.take len).length ((zs.take len).map fun n => .v (.int k n)), zs.take len, ⟨by simp; omega, fun n hn => hwz n (List.mem_of_mem_take hn), .inr rfl⟩, ?_⟩
  simp only [RepT, List.length_take, Nat.min_eq_left hlz]
  refine ⟨x, cap, rfl, hl, ?_⟩
  by_cases h0 : len = 0
  ·left; subst h0; simp
  ·right
   have c0 := hcell 0 (by omega)
   have hs : x.spot = none := by simpa [Addr.add] using World.cell?_spot c0
   refine ⟨hs, by simpa [Addr.add, Old] using E3h c0, RepC.mk fun j c hj => ?_⟩
   simp only [List.getElem?_map, Option.map_eq_some_iff] at hj
   obtain ⟨n, hn, rfl⟩ := hj
   have hj : j < len := by
    have := (List.getElem?_eq_some_iff.1 hn).1
    simp at this; omega
   have hn' : zs[j]? = some n := by rw [List.getElem?_take, if_pos hj] at hn; exact hn
   refine ⟨.int k n, ?_, rfl, by simp only [RepT]⟩
   have := hcell j (by omega)
   obtain ⟨xb, xo, xs⟩ := x
   simp only at hs
   subst hs
   cases j with
   | zero => simpa [Addr.add, List.getD_eq_getElem?_getD, hn'] using this
   | succ j => simpa [Addr.add, List.getD_eq_getElem?_getD, hn'] using this
theorem A1k.true {P : Program} {G : A0t} {f : FuncId} {ts : List T} {W : World} {us : Array Value} (h : A1k P G f ts (· = .v (.bool true)))
  (hG : ∀ g cs, look G g = some cs -> Old W g /\ RepG (Old W) W cs g) (hr : RepL (Old W) W ts us.toList) :
  Calls P f us W fun e w' => e = .returned (.bool true) /\ Below W.heap.size W w' := by
 refine (h.2 (Old W) W us (fun _ hb => hb) hG hr).mono fun e w' ⟨v, r, I', he, hR, hv, ho, hs, hsame, _⟩ => ?_
 subst hR
 simp only [RepT] at hv
 subst hv
 exact ⟨he, ⟨ho.1, ho.2.1, ho.2.2, hs, hsame⟩⟩
theorem B5l {P : Program} {W : World} {name : String} {g : Nat} {vs : List Value} (h : W.var? P name = some vs.toArray) (hg : P.globalNamed name = some g) (h1 : ∀ x ∈ vs, x.oneCell' = true) : Old W g /\ RepG (Old W) W (vs.map .v) g := by
 unfold World.var? at h
 rw [hg] at h
 simp only [Option.bind_some] at h
 split at h
 ·rename_i cs ty fz hw
  injection h with h
  subst h
  refine ⟨(Array.getElem?_eq_some_iff.1 hw).1, RepC.mk fun j c hj => ?_, _, _, _, hw, by simp⟩
  simp only [List.getElem?_map, Option.map_eq_some_iff] at hj
  obtain ⟨n, hn, rfl⟩ := hj
  refine ⟨n, ?_, h1 n (List.mem_of_getElem? hn), by simp only [RepT]⟩
  simp [World.cell?, hw, hn]
 ·cases h
theorem C9g {I : Nat -> Prop} {w : World} : ∀ {vs us : List Value}, RepL I w (vs.map .v) us -> us = vs
 | [], us, h => by simpa only [List.map_nil, RepL] using h
 | v :: vs, us, h => by
  simp only [List.map_cons, RepL] at h
  obtain ⟨x, xs, rfl, hx, hxs⟩ := h
  simp only [RepT] at hx
  rw [hx, C9g hxs]
theorem D9j {P : Program} {I : Nat -> Prop} {W : World} {name : String} {g : Nat} {vs : List Value} (hg : P.globalNamed name = some g) (h : RepG I W (vs.map .v) g) : W.var? P name = some vs.toArray := by
 obtain ⟨h, arr, ty, fz, hw, hn⟩ := h
 unfold World.var?
 rw [hg]
 simp only [Option.bind_some, hw, Option.some.injEq]
 apply Array.ext'
 refine List.ext_getElem? fun j => ?_
 by_cases hj : j < vs.length
 ·obtain ⟨x, hx, _, hr⟩ := h.at_ j (c := .v vs[j]) (by simp [hj])
  simp only [RepT] at hr
  subst hr
  simp only [World.cell?, hw, Nat.zero_add] at hx
  simpa [hj] using hx
 ·have : arr.size <= j := by simp at hn; omega
  rw [List.getElem?_eq_none (by simpa using this), List.getElem?_eq_none (by simpa using hj)]
theorem D9k {P : Program} {W : World} {name : String} {k : IntKind} {zs : List Int} {g : Nat} (h : Lib.TabIs P W name k zs) (hg : P.globalNamed name = some g) : Old W g /\ RepG (Old W) W (zs.map fun n => .v (.int k n)) g := by
 have := B5l (vs := zs.map fun z => Value.int k z) h hg (fun x hx => by obtain ⟨z, _, rfl⟩ := List.mem_map.1 hx; rfl)
 rwa [List.map_map] at this
theorem A1k.lib {P : Program} {G : A0t} {f : FuncId} {vs : List Value} {r : Value} (hf : IsFn P f)
  (h : ∀ (I : Nat -> Prop) (w : World), (∀ g cs, look G g = some cs -> I g /\ RepG I w cs g) -> Calls P f vs.toArray w fun e w' => e = .returned r /\ Below w.heap.size w w') : A1k P G f (vs.map .v) (· = .v r) := by
 refine ⟨hf, fun I w us hlt hglob hargs => ?_⟩
 have e : us = vs.toArray := by
  have := C9g hargs
  rw [<- this]
 subst e
 refine (h I w hglob).mono fun e w' ⟨he, hb⟩ => ?_
 exact ⟨r, _, I, he, rfl, by simp only [RepT], ⟨hb.os, hb.tape, hb.output⟩, hb.size, hb.block, fun _ h => h, fun _ h => .inl h, fun g hg => Nat.lt_of_lt_of_le (hlt g hg) hb.size⟩
end Go.Abs
