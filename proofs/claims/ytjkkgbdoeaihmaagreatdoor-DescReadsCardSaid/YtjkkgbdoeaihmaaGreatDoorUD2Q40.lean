/-
 Auxiliary facts. No statement of the program stands here.
-/
import Derived.Test.YtjkkgbdoeaihmaaGreatDoorUD2Q39
import Derived.Test.YtjkkgbdoeaihmaaGreatDoorCards
import Derived.Test.YtjkkgbdoeaihmaaGreatDoorTie
import Derived.Deep.DeepHandedRow
import Derived.Stop.LaidErr
namespace Go.Proofs.YtjkkgbdoeaihmaaGreatDoor
set_option linter.unusedSimpArgs false
set_option linter.unusedVariables false
open Go Go.Abs Go.ChangeShapes Go.WideShapes Go.ChangeAt Go.RowKit
theorem own : ownKnob Tryz.prog.godebug = none := by kernel_rfl
theorem C8l : laidOutB Tryz.prog = true := by kernel_rfl
abbrev E5b : List (String × DataW Unit) := [("math/bits.deBruijn32tab", Rows.laid_math_bits_deBruijn32tab), ("math/bits.deBruijn64tab", Rows.laid_math_bits_deBruijn64tab), ("internal/strconv.uint64pow10", Rows.laid_internal_strconv_uint64pow10), ("unicode/utf8.acceptRanges", Rows.laid_unicode_utf8_acceptRanges), ("strconv.ErrRange", Rows.laid_strconv_ErrRange), ("strconv.ErrSyntax", Rows.laid_strconv_ErrSyntax), ("unicode/utf8.first", Rows.laid_unicode_utf8_first)]
set_option maxRecDepth 100000 in
theorem D3k {W : World} (h : W.ShapedOpen Tryz.prog) : ∃ m, W.var? Tryz.prog "internal/bytealg.MaxLen" = some #[.int .i64 m] := by
 obtain ⟨h1, hr1⟩ := h
 clear hr1
 obtain ⟨cs, hw, hsz, hok⟩ := h1 0 #[.int .i64 0] 3 (of_decide_eq_true (by kernel_rfl)) (by kernel_rfl)
 obtain ⟨ts, hts, hnn, hc⟩ := hok (by kernel_rfl)
 have e1 : cs.size = 1 := hsz
 obtain ⟨v, hv⟩ : ∃ v, cs = #[v] := by
  obtain ⟨l⟩ := cs
  cases l with
  | nil => cases e1
  | cons v r => cases r with
   | nil => exact ⟨v, rfl⟩
   | cons _ _ => simp at e1
 subst hv
 obtain ⟨u, hu, hcell⟩ := hc 0 v rfl
 have hts' : ts = [3] := Option.some.inj (hts.symm.trans (show Tryz.prog.cellTypes Tryz.prog.depth 3 = some [3] by kernel_rfl))
 subst hts'
 have hu3 : u = 3 := by simpa using hu.symm
 subst hu3
 unfold Cell.ok at hcell
 have hun := Tryz.underlying3
 generalize Tryz.prog.underlying 3 = d at hcell hun
 subst hun
 cases v <;> simp only at hcell
 case int kd nv =>
  obtain ⟨rfl, hh⟩ := hcell
  refine ⟨nv, ?_⟩
  unfold World.var?
  rw [show Tryz.prog.globalNamed "internal/bytealg.MaxLen" = some 0 by kernel_rfl]
  simp only [Option.bind_some, hw]
theorem star : "*errors.errorString" = "*" ++ "errors.errorString" := by decide
theorem E2s (u : TypeId) (h : Tryz.prog.typeName? 3 u = some "*errors.errorString") : u = 180 :=
 typeName_ptr_named (nm := "errors.errorString") (by rw [<- star]; kernel_rfl) (by kernel_rfl) (by decide) u (by rw [<- star]; exact h)
theorem globs {W : World} (h : laidMetH Tryz.prog E5b W) (hsh : W.ShapedOpen Tryz.prog) : ∃ q : Gl, ∀ (g : Nat) (cs : List T), Abs.look (G q) g = some cs -> Old W g /\ RepG (Old W) W cs g := by
 have h0 : laidMet Tryz.prog E5b W := h
 have t : Lib.TabIs Tryz.prog W "internal/strconv.uint64pow10" .u64 E5h := Lib.tabIs_of_head (by kernel_rfl) (show (Tryz.prog.globals[5]?).map (·.type) = some 189 by kernel_rfl) Tryz.underlying189 Tryz.underlying108 (by kernel_rfl) (by kernel_rfl) h0.tail.tail
 obtain ⟨m, hm⟩ := D3k hsh
 obtain ⟨a1, s1, v1, _⟩ := laid_sentinel (g := 2) (ti := 93) (tp := 180) (te := 182) (ts := 9) h0.tail.tail.tail.tail (by kernel_rfl) (by kernel_rfl) Tryz.underlying93 E2s Tryz.underlying180 Tryz.underlying182 rfl rfl Tryz.underlying9 (by kernel_rfl) (by kernel_rfl)
 obtain ⟨a0, s0, v0, _⟩ := laid_sentinel (g := 1) (ti := 93) (tp := 180) (te := 182) (ts := 9) h0.tail.tail.tail.tail.tail (by kernel_rfl) (by kernel_rfl) Tryz.underlying93 E2s Tryz.underlying180 Tryz.underlying182 rfl rfl Tryz.underlying9 (by kernel_rfl) (by kernel_rfl)
 refine ⟨⟨m, 180, .pointer (some a0), 180, .pointer (some a1)⟩, fun g cs hl => ?_⟩
 simp only [G, Abs.look] at hl
 split at hl
 ·rename_i e; subst e; injection hl with hl; subst hl
  exact B5j (vs := [.iface 180 (.pointer (some a0))]) v0 (by kernel_rfl) (by intro x hx; simp at hx; subst hx; rfl)
 ·split at hl
  ·rename_i e; subst e; injection hl with hl; subst hl
   exact B5j (vs := [.iface 180 (.pointer (some a1))]) v1 (by kernel_rfl) (by intro x hx; simp at hx; subst hx; rfl)
  ·split at hl
   ·rename_i e; subst e; injection hl with hl; subst hl
    exact D9n t (by kernel_rfl)
   ·split at hl
    ·rename_i e; subst e; injection hl with hl; subst hl
     exact B5j (vs := [.int .i64 m]) hm (by kernel_rfl) (by intro x hx; simp at hx; subst hx; rfl)
    ·cases hl
def litV : Lit -> Value
 | .int k n => .int k n
 | _ => undef
def E7p : DataW Unit -> List Value
 | .lit x => [litV x]
 | .agg l => l.flatMap fun | .lit x => [litV x] | _ => []
 | _ => []
def C6a : DataW Unit -> List Value
 | .agg l => l.flatMap E7p
 | _ => []
noncomputable def low : Nat := (World.holding Tryz.prog default ⟨#[], #[], []⟩).heap.size
def putC (h : Array Obj) (g : Nat) (cs : Array Value) : Array Obj := h.modify g fun
 | .cells _ t frozen => .cells cs t frozen
 | o => o
noncomputable def B8d (os : Os) : World :=
 let w0 := World.holding Tryz.prog os ⟨#[.cells #[.string ⟨#[105, 110, 118, 97, 108, 105, 100, 32, 115, 121, 110, 116, 97, 120]⟩] 182, .cells #[.string ⟨#[118, 97, 108, 117, 101, 32, 111, 117, 116, 32, 111, 102, 32, 114, 97, 110, 103, 101]⟩] 182], #[], []⟩
 { w0 with heap := putC (putC (putC (putC (putC (putC (putC w0.heap 1 #[.iface 180 (.pointer (some ⟨low, 0, none⟩))]) 2 #[.iface 180 (.pointer (some ⟨low + 1, 0, none⟩))]) 3 (C6a Rows.laid_unicode_utf8_first).toArray) 4 (C6a Rows.laid_unicode_utf8_acceptRanges).toArray)
   5 (C6a Rows.laid_internal_strconv_uint64pow10).toArray) 6 (C6a Rows.laid_math_bits_deBruijn32tab).toArray) 7 (C6a Rows.laid_math_bits_deBruijn64tab).toArray }
theorem E1v (os : Os) (args : Array Value) : laidMet Tryz.prog E5b ((B8d os).forCall (fun _ _ => 0) ⟨#[], args, []⟩).memory :=
 laidMet_of_run' 8 (by kernel_rfl) (by kernel_rfl)
set_option maxRecDepth 100000 in
theorem E7q {W : World} {base : Nat} {v : Value} (h : Value.okWide Tryz.prog W .any base 9 v) : ∃ s, v = .string s /\ s.size <= lim := by
 obtain ⟨s, rfl⟩ := okWide_string Tryz.underlying9 h
 refine ⟨s, rfl, ?_⟩
 unfold Value.okWide at h
 have hu := Tryz.underlying9
 unfold Cell.okWide Cell.ok at h
 generalize Tryz.prog.underlying 9 = d at h hu
 subst hu
 have h' : (s.size : Int) <= IntKind.i64.max := h
 have e : IntKind.i64.max = 9223372036854775807 := by decide
 rw [e] at h'
 show s.size <= 9223372036854775807
 omega
set_option maxRecDepth 100000 in
theorem E2t {W : World} {base : Nat} {v : Value} (h : Value.okWide Tryz.prog W .any base 3 v) : ∃ n, v = .int .i64 n /\ (-9223372036854775808 <= n /\ n <= 9223372036854775807) := by
 obtain ⟨n, rfl⟩ := okWide_int Tryz.underlying3 h
 refine ⟨n, rfl, ?_⟩
 unfold Value.okWide at h
 have hu := Tryz.underlying3
 unfold Cell.okWide Cell.ok at h
 generalize Tryz.prog.underlying 3 = d at h hu
 subst hu
 have e1 : IntKind.i64.max = 9223372036854775807 := by decide
 have e2 : IntKind.i64.min = -9223372036854775808 := by decide
 have h' : IntKind.i64 = IntKind.i64 /\ IntKind.i64.has n := h
 have h2 := h'.2
 unfold IntKind.has at h2
 rw [e1, e2] at h2
 simpa using h2
open Go Go.Abs
variable {q : Gl}
theorem Small.fine : ∀ {d : Ds}, Small d -> Fine d := fun h => by
 induction h with
 | mk op name path kids h1 h2 h3 h4 h5 ih => exact .mk op name path kids (by omega) (by omega) ih
theorem D8s : Small zDs := .mk 0 ⟨#[]⟩ [] [] (by decide) (by decide) (fun s h => by cases h) (by decide) (fun k h => by cases h)
theorem D8t {D : List UInt8} {l : Nat} {ts : List Tok} (h : A9x D l = .ok ts) (k i : Nat) : ∃ (d : Ds) (n e : Int), A3j (desS ((ts.take k).map kt) 64 i) = .tu [dT d, iv n, iv e] /\ Small d := by
 rw [List.map_take]
 cases hd : desS ((ts.map kt).take k) 64 i with
 | error e => exact ⟨zDs, 0, e, rfl, D8s⟩
 | ok y => exact ⟨y.1, y.2, 0, rfl, (D8d h k hd).2⟩
section
variable (d d2 : Ds) (R : Heap)
abbrev dC (d : Ds) : Row := .cells 25 ((encD d).map .t)
theorem lc1 : A0s true 4 ((1, dC d) :: R) (.ptr 1 0) = some (.t (dT d)) := ld_d rfl
theorem lc10 : A0s true 4 ((1, dC d2) :: (0, dC d) :: R) (.ptr 0 0) = some (.t (dT d)) := ld_d rfl
end
theorem E5c {d : Ds} (h : Small d) : gSd d.depth [dT d, dT d] = some (bv true) := by
 rw [dT]
 exact E2h (IsD.enc d) (IsD.enc d) h.fine (Nat.le_refl _)
theorem C6b {s : ByteArray} (h : s.size <= 65536) : (∃ (k e : Int), e ≠ 0 /\ B5g [sv s] = some (.tu [nilS, iv k, iv e]) /\ A9x s.data.toList 1 = .error (k.toNat, e)) \/ ∃ ts, A9x s.data.toList 1 = .ok ts /\ B5g [sv s] = some (.tu [A1x eTok ts, iv 0, iv 0]) /\ ts.length <= s.size := by
 have hg : B5g [sv s] = some (B0b s.data.toList) := if_pos (by omega)
 have hl : ¬ 65536 < s.data.toList.length := by
  have : s.data.toList.length = s.size := rfl
  omega
 rw [hg]
 unfold B0b
 rw [if_neg hl]
 cases hs : A9x s.data.toList 1 with
 | error x => exact .inl ⟨x.1, x.2, (D7h hs).2, rfl, rfl⟩
 | ok ts => exact .inr ⟨ts, rfl, rfl, C5h hs⟩
theorem D8u (s : ByteArray) (to at_ : Int) (hto : -9223372036854775808 <= to /\ to <= 9223372036854775807) : A1k Tryz.prog (G q) 4 [sv s, iv to, iv at_] (· = bv true) := by
 have CE : Ctx Tryz.prog (G q) (orc [(13, gEx), (16, B5g)]) := (A0z.cons hEx (.cons E2g .nil)).ctx mixed
 refine B6n.call rfl ?_
 by_cases hs : 2000 < s.size
 ·have hs' : (2000 : Int) < (s.size : Int) := by omega
  refine A0c CE ?_
  simp -implicitDefEqProofs [A2x, hs, hs', ge0]
 have hs' : ¬ (2000 : Int) < (s.size : Int) := by omega
 by_cases ha : at_ < 0
 ·refine A0c CE ?_
  simp -implicitDefEqProofs [A2x, hs, hs', ha, ge0]
 rcases C6b (s := s) (by omega) with ⟨k, e, he, hg, _⟩ | ⟨ts, hts, hg, hlen⟩
 ·have hb : (e != 0) = true := by simpa using he
  refine A0c CE ?_
  simp -implicitDefEqProofs [A2x, hs, hs', ha, hg, hb, he, ge0]
 have hlt : A2e (.t (A1x eTok ts)) = some (.t (iv (ts.length : Int))) := (IsS.tree eTok ts).len
 by_cases h1 : (ts.length : Int) < to
 ·generalize A1x eTok ts = tt at hg hlt
  refine A0c CE ?_
  simp -implicitDefEqProofs [A2x, hs, hs', ha, hg, hlt, h1, ge0]
 by_cases h2 : to < at_
 ·generalize A1x eTok ts = tt at hg hlt
  refine A0c CE ?_
  simp -implicitDefEqProofs [A2x, hs, hs', ha, hg, hlt, h1, h2, ge0]
 obtain ⟨n, rfl⟩ := Int.eq_ofNat_of_zero_le (show 0 <= to by omega)
 obtain ⟨i, rfl⟩ := Int.eq_ofNat_of_zero_le (show 0 <= at_ by omega)
 have hn : n <= ts.length := by omega
 have hin : i <= n := by omega
 obtain ⟨t1, hsl, hi1⟩ := (IsS.tree eTok ts).slice_to hn .i64
 obtain ⟨d, m, e, hr, hsm⟩ := D8t hts n i
 have hrd := D0e (i := i) hi1 (by rw [List.length_take]; omega) (by rw [List.length_take]; omega)
 rw [hr] at hrd
 have hsl : A5t 3 (.t (A1x eTok ts)) none (some (.t (iv (n : Int)))) = some (.t t1) := hsl
 have C : Ctx Tryz.prog (G q) (orc [(13, gEx), (16, B5g), (17, C5j), (18, C5j), (19, gSd d.depth)]) := (A0z.cons hEx (.cons E2g (.cons E6q (.cons E6r (.cons (hSd d.depth) .nil))))).ctx mixed
 have h5 := E5c hsm
 have st0 := C0g d
 have st1 := C7v [(0, dC d)] d
 have l0 := lc10 d d []
 have l1 := lc1 d [(0, dC d)]
 have k1 : ¬ ts.length < n := by omega
 have k2 : ¬ n < i := by omega
 have k3 : ¬ (i : Int) < 0 := by omega
 generalize dT d = td at hrd h5 st0 st1 l0 l1
 generalize A1x eTok ts = tt at hg hlt hsl
 refine A0c C ?_
 simp -implicitDefEqProofs [A2x, hs, hs', k3, hg, hlt, h1, h2, k1, k2, hsl, hrd, st0, st1, l0, l1, h5, ge0]
end Go.Proofs.YtjkkgbdoeaihmaaGreatDoor
