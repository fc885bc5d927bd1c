/-
 Auxiliary facts. No statement of the program stands here.
-/
import Derived.Test.YtjkkgbdoeaihmaaGreatDoorUD3Q39
import Derived.Test.YtjkkgbdoeaihmaaGreatDoorCards
import Derived.Test.YtjkkgbdoeaihmaaGreatDoorTie
import Derived.Deep.DeepHandedRow
import Derived.Stop.LaidErr
namespace Go.Proofs.YtjkkgbdoeaihmaaGreatDoor
set_option linter.unusedSimpArgs false
set_option linter.unusedVariables false
open Go Go.Abs Go.ChangeShapes Go.WideShapes Go.ChangeAt Go.RowKit
theorem own : ownKnob Tryz.prog.godebug = none := by kernel_rfl
theorem E4z : laidOutB Tryz.prog = true := by kernel_rfl
abbrev E5a : List (String × DataW Unit) := [("math/bits.deBruijn32tab", Rows.laid_math_bits_deBruijn32tab), ("math/bits.deBruijn64tab", Rows.laid_math_bits_deBruijn64tab), ("internal/strconv.uint64pow10", Rows.laid_internal_strconv_uint64pow10), ("unicode/utf8.acceptRanges", Rows.laid_unicode_utf8_acceptRanges), ("strconv.ErrRange", Rows.laid_strconv_ErrRange), ("strconv.ErrSyntax", Rows.laid_strconv_ErrSyntax), ("unicode/utf8.first", Rows.laid_unicode_utf8_first)]
set_option maxRecDepth 100000 in
theorem D3g {W : World} (h : W.ShapedOpen Tryz.prog) : ∃ m, W.var? Tryz.prog "internal/bytealg.MaxLen" = some #[.int .i64 m] := by
 obtain ⟨h1, hr1⟩ := h
 clear hr1
 obtain ⟨cs, hw, hsz, hok⟩ := h1 0 #[.int .i64 0] 3 (of_decide_eq_true (by kernel_rfl)) (by kernel_rfl)
 obtain ⟨ts, hts, hnn, hc⟩ := hok (by kernel_rfl)
 have e1 : cs.size = 1 := hsz
 obtain ⟨v, hv⟩ : ∃ v, cs = #[v] := by
  obtain ⟨l⟩ := cs
  cases l with
  | nil => cases e1
  | cons v r => cases r with
   | nil => exact ⟨v, rfl⟩
   | cons _ _ => simp at e1
 subst hv
 obtain ⟨u, hu, hcell⟩ := hc 0 v rfl
 have hts' : ts = [3] := Option.some.inj (hts.symm.trans (show Tryz.prog.cellTypes Tryz.prog.depth 3 = some [3] by kernel_rfl))
 subst hts'
 have hu3 : u = 3 := by simpa using hu.symm
 subst hu3
 unfold Cell.ok at hcell
 have hun := Tryz.underlying3
 generalize Tryz.prog.underlying 3 = d at hcell hun
 subst hun
 cases v <;> simp only at hcell
 case int kd nv =>
  obtain ⟨rfl, hh⟩ := hcell
  refine ⟨nv, ?_⟩
  unfold World.var?
  rw [show Tryz.prog.globalNamed "internal/bytealg.MaxLen" = some 0 by kernel_rfl]
  simp only [Option.bind_some, hw]
theorem star : "*errors.errorString" = "*" ++ "errors.errorString" := by decide
theorem E2q (u : TypeId) (h : Tryz.prog.typeName? 3 u = some "*errors.errorString") : u = 180 :=
 typeName_ptr_named (nm := "errors.errorString") (by rw [<- star]; kernel_rfl) (by kernel_rfl) (by decide) u (by rw [<- star]; exact h)
theorem globs {W : World} (h : laidMetH Tryz.prog E5a W) (hsh : W.ShapedOpen Tryz.prog) : ∃ q : Gl, ∀ (g : Nat) (cs : List T), Abs.look (G q) g = some cs -> Old W g /\ RepG (Old W) W cs g := by
 have h0 : laidMet Tryz.prog E5a W := h
 have t : Lib.TabIs Tryz.prog W "internal/strconv.uint64pow10" .u64 E5g := Lib.tabIs_of_head (by kernel_rfl) (show (Tryz.prog.globals[5]?).map (·.type) = some 189 by kernel_rfl) Tryz.underlying189 Tryz.underlying108 (by kernel_rfl) (by kernel_rfl) h0.tail.tail
 obtain ⟨m, hm⟩ := D3g hsh
 obtain ⟨a1, s1, v1, _⟩ := laid_sentinel (g := 2) (ti := 93) (tp := 180) (te := 182) (ts := 9) h0.tail.tail.tail.tail (by kernel_rfl) (by kernel_rfl) Tryz.underlying93 E2q Tryz.underlying180 Tryz.underlying182 rfl rfl Tryz.underlying9 (by kernel_rfl) (by kernel_rfl)
 obtain ⟨a0, s0, v0, _⟩ := laid_sentinel (g := 1) (ti := 93) (tp := 180) (te := 182) (ts := 9) h0.tail.tail.tail.tail.tail (by kernel_rfl) (by kernel_rfl) Tryz.underlying93 E2q Tryz.underlying180 Tryz.underlying182 rfl rfl Tryz.underlying9 (by kernel_rfl) (by kernel_rfl)
 refine ⟨⟨m, 180, .pointer (some a0), 180, .pointer (some a1)⟩, fun g cs hl => ?_⟩
 simp only [G, Abs.look] at hl
 split at hl
 ·rename_i e; subst e; injection hl with hl; subst hl
  exact B5l (vs := [.iface 180 (.pointer (some a0))]) v0 (by kernel_rfl) (by intro x hx; simp at hx; subst hx; rfl)
 ·split at hl
  ·rename_i e; subst e; injection hl with hl; subst hl
   exact B5l (vs := [.iface 180 (.pointer (some a1))]) v1 (by kernel_rfl) (by intro x hx; simp at hx; subst hx; rfl)
  ·split at hl
   ·rename_i e; subst e; injection hl with hl; subst hl
    exact D9k t (by kernel_rfl)
   ·split at hl
    ·rename_i e; subst e; injection hl with hl; subst hl
     exact B5l (vs := [.int .i64 m]) hm (by kernel_rfl) (by intro x hx; simp at hx; subst hx; rfl)
    ·cases hl
def litV : Lit -> Value
 | .int k n => .int k n
 | _ => undef
def E7n : DataW Unit -> List Value
 | .lit x => [litV x]
 | .agg l => l.flatMap fun | .lit x => [litV x] | _ => []
 | _ => []
def C5x : DataW Unit -> List Value
 | .agg l => l.flatMap E7n
 | _ => []
noncomputable def low : Nat := (World.holding Tryz.prog default ⟨#[], #[], []⟩).heap.size
def putC (h : Array Obj) (g : Nat) (cs : Array Value) : Array Obj := h.modify g fun
 | .cells _ t frozen => .cells cs t frozen
 | o => o
noncomputable def B8b (os : Os) : World :=
 let w0 := World.holding Tryz.prog os ⟨#[.cells #[.string ⟨#[105, 110, 118, 97, 108, 105, 100, 32, 115, 121, 110, 116, 97, 120]⟩] 182, .cells #[.string ⟨#[118, 97, 108, 117, 101, 32, 111, 117, 116, 32, 111, 102, 32, 114, 97, 110, 103, 101]⟩] 182], #[], []⟩
 { w0 with heap := putC (putC (putC (putC (putC (putC (putC w0.heap 1 #[.iface 180 (.pointer (some ⟨low, 0, none⟩))]) 2 #[.iface 180 (.pointer (some ⟨low + 1, 0, none⟩))]) 3 (C5x Rows.laid_unicode_utf8_first).toArray) 4 (C5x Rows.laid_unicode_utf8_acceptRanges).toArray)
   5 (C5x Rows.laid_internal_strconv_uint64pow10).toArray) 6 (C5x Rows.laid_math_bits_deBruijn32tab).toArray) 7 (C5x Rows.laid_math_bits_deBruijn64tab).toArray }
theorem E1s (os : Os) (args : Array Value) : laidMet Tryz.prog E5a ((B8b os).forCall (fun _ _ => 0) ⟨#[], args, []⟩).memory :=
 laidMet_of_run' 8 (by kernel_rfl) (by kernel_rfl)
set_option maxRecDepth 100000 in
theorem E7o {W : World} {base : Nat} {v : Value} (h : Value.okWide Tryz.prog W .any base 9 v) : ∃ s, v = .string s /\ s.size <= lim := by
 obtain ⟨s, rfl⟩ := okWide_string Tryz.underlying9 h
 refine ⟨s, rfl, ?_⟩
 unfold Value.okWide at h
 have hu := Tryz.underlying9
 unfold Cell.okWide Cell.ok at h
 generalize Tryz.prog.underlying 9 = d at h hu
 subst hu
 have h' : (s.size : Int) <= IntKind.i64.max := h
 have e : IntKind.i64.max = 9223372036854775807 := by decide
 rw [e] at h'
 show s.size <= 9223372036854775807
 omega
open Go Go.Abs
variable {q : Gl}
theorem Small.fine : ∀ {d : Ds}, Small d -> Fine d := fun h => by
 induction h with
 | mk op name path kids h1 h2 h3 h4 h5 ih => exact .mk op name path kids (by omega) (by omega) ih
theorem D8q : Small zDs := .mk 0 ⟨#[]⟩ [] [] (by decide) (by decide) (fun s h => by cases h) (by decide) (fun k h => by cases h)
theorem D8r {s : List UInt8} {d : Ds} (h : parS s = .ok d) : A1g d 1 = 0 /\ Small d := by
 unfold parS D7f at h
 split at h
 ·cases h
 ·rename_i ts hts
  split at hts
  ·cases hts
  ·split at hts
   ·cases hts
   ·rename_i us hus
    injection hts with hts; subst hts
    split at h
    ·cases h
    ·rename_i d' n hd
     split at h
     ·cases h
     ·injection h with h; subst h
      refine D8b hus (us.map kt).length (p := 0) (p' := n) ?_
      rw [List.take_length]
      exact hd
theorem E1t (s : List UInt8) : ∃ (d : Ds) (e : Int), parT (parS s) = .tu [dT d, iv e] /\ Small d := by
 cases h : parS s with
 | error e => exact ⟨zDs, e, rfl, D8q⟩
 | ok d => exact ⟨d, 0, rfl, (D8r h).2⟩
section
variable (d d2 : Ds) (R : Heap)
abbrev dC (d : Ds) : Row := .cells 25 ((encD d).map .t)
theorem lc1 : A0s true 4 ((1, dC d) :: R) (.ptr 1 0) = some (.t (dT d)) := ld_d rfl
theorem lc10 : A0s true 4 ((1, dC d2) :: (0, dC d) :: R) (.ptr 0 0) = some (.t (dT d)) := ld_d rfl
end
theorem E5b {d : Ds} (h : Small d) : gSd d.depth [dT d, dT d] = some (bv true) := by
 rw [dT]
 exact E2f (IsD.enc d) (IsD.enc d) h.fine (Nat.le_refl _)
theorem D3h (s : ByteArray) : A1k Tryz.prog (G q) 5 [sv s] (· = bv true) := by
 obtain ⟨d, e, hp, hsm⟩ := E1t s.data.toList
 have C : Ctx Tryz.prog (G q) (orc [(13, gEx), (20, B0a), (21, B0a), (19, gSd d.depth)]) := (A0z.cons hEx (.cons E2e (.cons E4h (.cons (hSd d.depth) .nil)))).ctx mixed
 refine B5e.call rfl ?_
 by_cases hs : 2000 < s.size
 ·have hs' : (2000 : Int) < (s.size : Int) := by omega
  refine A0c C ?_
  simp -implicitDefEqProofs [A6c, hs, hs', ge0]
 ·have hs' : ¬ (2000 : Int) < (s.size : Int) := by omega
  have hg := B3a (s := s) (by omega)
  rw [hp] at hg
  have h1 := E5b hsm
  have st0 := C0e d
  have st1 := C7s [(0, dC d)] d
  have l0 := lc10 d d []
  have l1 := lc1 d [(0, dC d)]
  generalize dT d = td at hg h1 st0 st1 l0 l1
  refine A0c C ?_
  simp -implicitDefEqProofs [A6c, hs, hs', hg, st0, st1, l0, l1, h1, ge0]
end Go.Proofs.YtjkkgbdoeaihmaaGreatDoor
