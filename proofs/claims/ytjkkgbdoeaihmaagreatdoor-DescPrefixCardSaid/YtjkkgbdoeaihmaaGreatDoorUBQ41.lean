/-
 Auxiliary facts. No statement of the program stands here.
-/
import Derived.Test.YtjkkgbdoeaihmaaGreatDoorUBQ40
import Derived.Test.YtjkkgbdoeaihmaaGreatDoorCards
import Derived.Test.YtjkkgbdoeaihmaaGreatDoorTie
import Derived.Deep.DeepHandedRow
import Derived.Stop.LaidErr
namespace Go.Proofs.YtjkkgbdoeaihmaaGreatDoor
set_option linter.unusedSimpArgs false
set_option linter.unusedVariables false
open Go Go.Abs Go.ChangeShapes Go.WideShapes Go.ChangeAt Go.RowKit
theorem own : ownKnob Tryz.prog.godebug = none := by kernel_rfl
theorem laidOut : laidOutB Tryz.prog = true := by kernel_rfl
abbrev laidL : List (String × DataW Unit) := [("math/bits.deBruijn32tab", Rows.laid_math_bits_deBruijn32tab), ("math/bits.deBruijn64tab", Rows.laid_math_bits_deBruijn64tab), ("internal/strconv.uint64pow10", Rows.laid_internal_strconv_uint64pow10), ("unicode/utf8.acceptRanges", Rows.laid_unicode_utf8_acceptRanges), ("strconv.ErrRange", Rows.laid_strconv_ErrRange), ("strconv.ErrSyntax", Rows.laid_strconv_ErrSyntax), ("unicode/utf8.first", Rows.laid_unicode_utf8_first)]
set_option maxRecDepth 100000 in
theorem maxLen_var {W : World} (h : W.ShapedOpen Tryz.prog) : ∃ m, W.var? Tryz.prog "internal/bytealg.MaxLen" = some #[.int .i64 m] := by
 obtain ⟨h1, hr1⟩ := h
 clear hr1
 obtain ⟨cs, hw, hsz, hok⟩ := h1 0 #[.int .i64 0] 3 (of_decide_eq_true (by kernel_rfl)) (by kernel_rfl)
 obtain ⟨ts, hts, hnn, hc⟩ := hok (by kernel_rfl)
 have e1 : cs.size = 1 := hsz
 obtain ⟨v, hv⟩ : ∃ v, cs = #[v] := by
  obtain ⟨l⟩ := cs
  cases l with
  | nil => cases e1
  | cons v r => cases r with
   | nil => exact ⟨v, rfl⟩
   | cons _ _ => simp at e1
 subst hv
 obtain ⟨u, hu, hcell⟩ := hc 0 v rfl
 have hts' : ts = [3] := Option.some.inj (hts.symm.trans (show Tryz.prog.cellTypes Tryz.prog.depth 3 = some [3] by kernel_rfl))
 subst hts'
 have hu3 : u = 3 := by simpa using hu.symm
 subst hu3
 unfold Cell.ok at hcell
 have hun := Tryz.underlying3
 generalize Tryz.prog.underlying 3 = d at hcell hun
 subst hun
 cases v <;> simp only at hcell
 case int kd nv =>
  obtain ⟨rfl, hh⟩ := hcell
  refine ⟨nv, ?_⟩
  unfold World.var?
  rw [show Tryz.prog.globalNamed "internal/bytealg.MaxLen" = some 0 by kernel_rfl]
  simp only [Option.bind_some, hw]
theorem star : "*errors.errorString" = "*" ++ "errors.errorString" := by decide
theorem errRow (u : TypeId) (h : Tryz.prog.typeName? 3 u = some "*errors.errorString") : u = 180 :=
 typeName_ptr_named (nm := "errors.errorString") (by rw [<- star]; kernel_rfl) (by kernel_rfl) (by decide) u (by rw [<- star]; exact h)
theorem globs {W : World} (h : laidMetH Tryz.prog laidL W) (hsh : W.ShapedOpen Tryz.prog) : ∃ q : Gl, ∀ (g : Nat) (cs : List T), Abs.look (G q) g = some cs -> Old W g /\ RepG (Old W) W cs g := by
 have h0 : laidMet Tryz.prog laidL W := h
 have t : Lib.TabIs Tryz.prog W "internal/strconv.uint64pow10" .u64 pow10 := Lib.tabIs_of_head (by kernel_rfl) (show (Tryz.prog.globals[5]?).map (·.type) = some 189 by kernel_rfl) Tryz.underlying189 Tryz.underlying108 (by kernel_rfl) (by kernel_rfl) h0.tail.tail
 obtain ⟨m, hm⟩ := maxLen_var hsh
 obtain ⟨a1, s1, v1, _⟩ := laid_sentinel (g := 2) (ti := 93) (tp := 180) (te := 182) (ts := 9) h0.tail.tail.tail.tail (by kernel_rfl) (by kernel_rfl) Tryz.underlying93 errRow Tryz.underlying180 Tryz.underlying182 rfl rfl Tryz.underlying9 (by kernel_rfl) (by kernel_rfl)
 obtain ⟨a0, s0, v0, _⟩ := laid_sentinel (g := 1) (ti := 93) (tp := 180) (te := 182) (ts := 9) h0.tail.tail.tail.tail.tail (by kernel_rfl) (by kernel_rfl) Tryz.underlying93 errRow Tryz.underlying180 Tryz.underlying182 rfl rfl Tryz.underlying9 (by kernel_rfl) (by kernel_rfl)
 refine ⟨⟨m, 180, .pointer (some a0), 180, .pointer (some a1)⟩, fun g cs hl => ?_⟩
 simp only [G, Abs.look] at hl
 split at hl
 ·rename_i e; subst e; injection hl with hl; subst hl
  exact glob_var (vs := [.iface 180 (.pointer (some a0))]) v0 (by kernel_rfl) (by intro x hx; simp at hx; subst hx; rfl)
 ·split at hl
  ·rename_i e; subst e; injection hl with hl; subst hl
   exact glob_var (vs := [.iface 180 (.pointer (some a1))]) v1 (by kernel_rfl) (by intro x hx; simp at hx; subst hx; rfl)
  ·split at hl
   ·rename_i e; subst e; injection hl with hl; subst hl
    exact glob_tab t (by kernel_rfl)
   ·split at hl
    ·rename_i e; subst e; injection hl with hl; subst hl
     exact glob_var (vs := [.int .i64 m]) hm (by kernel_rfl) (by intro x hx; simp at hx; subst hx; rfl)
    ·cases hl
def litV : Lit -> Value
 | .int k n => .int k n
 | _ => undef
def cells1 : DataW Unit -> List Value
 | .lit x => [litV x]
 | .agg l => l.flatMap fun | .lit x => [litV x] | _ => []
 | _ => []
def cells2 : DataW Unit -> List Value
 | .agg l => l.flatMap cells1
 | _ => []
noncomputable def low : Nat := (World.holding Tryz.prog default ⟨#[], #[], []⟩).heap.size
def putC (h : Array Obj) (g : Nat) (cs : Array Value) : Array Obj := h.modify g fun
 | .cells _ t frozen => .cells cs t frozen
 | o => o
noncomputable def laidWorld (os : Os) : World :=
 let w0 := World.holding Tryz.prog os ⟨#[.cells #[.string ⟨#[105, 110, 118, 97, 108, 105, 100, 32, 115, 121, 110, 116, 97, 120]⟩] 182, .cells #[.string ⟨#[118, 97, 108, 117, 101, 32, 111, 117, 116, 32, 111, 102, 32, 114, 97, 110, 103, 101]⟩] 182], #[], []⟩
 { w0 with heap := putC (putC (putC (putC (putC (putC (putC w0.heap 1 #[.iface 180 (.pointer (some ⟨low, 0, none⟩))]) 2 #[.iface 180 (.pointer (some ⟨low + 1, 0, none⟩))]) 3 (cells2 Rows.laid_unicode_utf8_first).toArray) 4 (cells2 Rows.laid_unicode_utf8_acceptRanges).toArray)
   5 (cells2 Rows.laid_internal_strconv_uint64pow10).toArray) 6 (cells2 Rows.laid_math_bits_deBruijn32tab).toArray) 7 (cells2 Rows.laid_math_bits_deBruijn64tab).toArray }
theorem laid_met (os : Os) (args : Array Value) : laidMet Tryz.prog laidL ((laidWorld os).forCall (fun _ _ => 0) ⟨#[], args, []⟩).memory :=
 laidMet_of_run' 8 (by kernel_rfl) (by kernel_rfl)
set_option maxRecDepth 100000 in
theorem str_ok {W : World} {base : Nat} {v : Value} (h : Value.okWide Tryz.prog W .any base 9 v) : ∃ s, v = .string s /\ s.size <= lim := by
 obtain ⟨s, rfl⟩ := okWide_string Tryz.underlying9 h
 refine ⟨s, rfl, ?_⟩
 unfold Value.okWide at h
 have hu := Tryz.underlying9
 unfold Cell.okWide Cell.ok at h
 generalize Tryz.prog.underlying 9 = d at h hu
 subst hu
 have h' : (s.size : Int) <= IntKind.i64.max := h
 have e : IntKind.i64.max = 9223372036854775807 := by decide
 rw [e] at h'
 show s.size <= 9223372036854775807
 omega
set_option maxRecDepth 100000 in
theorem int_ok {W : World} {base : Nat} {v : Value} (h : Value.okWide Tryz.prog W .any base 3 v) : ∃ n, v = .int .i64 n /\ (-9223372036854775808 <= n /\ n <= 9223372036854775807) := by
 obtain ⟨n, rfl⟩ := okWide_int Tryz.underlying3 h
 refine ⟨n, rfl, ?_⟩
 unfold Value.okWide at h
 have hu := Tryz.underlying3
 unfold Cell.okWide Cell.ok at h
 generalize Tryz.prog.underlying 3 = d at h hu
 subst hu
 have e1 : IntKind.i64.max = 9223372036854775807 := by decide
 have e2 : IntKind.i64.min = -9223372036854775808 := by decide
 have h' : IntKind.i64 = IntKind.i64 /\ IntKind.i64.has n := h
 have h2 := h'.2
 unfold IntKind.has at h2
 rw [e1, e2] at h2
 simpa using h2
open Go Go.Abs
variable {q : Gl}
theorem Small.fine : ∀ {d : Ds}, Small d -> Fine d := fun h => by
 induction h with
 | mk op name path kids h1 h2 h3 h4 h5 ih => exact .mk op name path kids (by omega) (by omega) ih
theorem par_small {s : List UInt8} {d : Ds} (h : parS s = .ok d) : checkE d 1 = 0 /\ Small d := by
 unfold parS toksS at h
 split at h
 ·cases h
 ·rename_i ts hts
  split at hts
  ·cases hts
  ·split at hts
   ·cases hts
   ·rename_i us hus
    injection hts with hts; subst hts
    split at h
    ·cases h
    ·rename_i d' n hd
     split at h
     ·cases h
     ·injection h with h; subst h
      refine des_small hus (us.map kt).length (p := 0) (p' := n) ?_
      rw [List.take_length]
      exact hd
theorem par_err {s : List UInt8} {e : Int} (h : parS s = .error e) : e ≠ 0 := by
 have ht := toks_scan s
 unfold parS at h
 split at h
 ·rename_i e' he
  rw [he] at ht
  injection h with h
  subst h
  exact ht.1
 ·split at h
  ·rename_i e' hd
   injection h with h
   subst h
   exact des_err _ _ _ hd
  ·split at h
   ·injection h with h
    subst h
    decide
   ·cases h
section
variable (d d2 : Ds) (R : Heap)
abbrev dC (d : Ds) : Row := .cells 25 ((encD d).map .t)
theorem lc1 : loadM true 4 ((1, dC d) :: R) (.ptr 1 0) = some (.t (dT d)) := ld_d rfl
theorem lc10 : loadM true 4 ((1, dC d2) :: (0, dC d) :: R) (.ptr 0 0) = some (.t (dT d)) := ld_d rfl
end
theorem sd_self {d : Ds} (h : Small d) : gSd d.depth [dT d, dT d] = some (bv true) := by
 rw [dT]
 exact gSd_eq (IsD.enc d) (IsD.enc d) h.fine (Nat.le_refl _)
theorem scan_call_eq {s : ByteArray} (h : s.size <= 65536) : (∃ (k e : Int), e ≠ 0 /\ gScan [sv s] = some (.tu [nilS, iv k, iv e]) /\ scanS s.data.toList 1 = .error (k.toNat, e)) \/ ∃ ts, scanS s.data.toList 1 = .ok ts /\ gScan [sv s] = some (.tu [treeS eTok ts, iv 0, iv 0]) /\ ts.length <= s.size := by
 have hg : gScan [sv s] = some (scanT s.data.toList) := if_pos (by omega)
 have hl : ¬ 65536 < s.data.toList.length := by
  have : s.data.toList.length = s.size := rfl
  omega
 rw [hg]
 unfold scanT
 rw [if_neg hl]
 cases hs : scanS s.data.toList 1 with
 | error x => exact .inl ⟨x.1, x.2, (scanS_err hs).2, rfl, rfl⟩
 | ok ts => exact .inr ⟨ts, rfl, rfl, scanS_len hs⟩
theorem prefix_law (s : ByteArray) (at_ : Int) : CallT Tryz.prog (G q) 11 [sv s, iv at_] (· = bv true) := by
 have CE : Ctx Tryz.prog (G q) (orc [(13, gEx), (16, gScan), (17, gRead)]) := (TblOK.cons hEx (.cons hRScan (.cons hRead .nil))).ctx mixed
 refine k_w19_DescPrefix.call rfl ?_
 by_cases hs : 1000 < s.size
 ·have hs' : (1000 : Int) < (s.size : Int) := by omega
  refine mc_runs CE ?_
  simp -implicitDefEqProofs [M_w19_DescPrefix, hs, hs', ge0]
 have hs' : ¬ (1000 : Int) < (s.size : Int) := by omega
 by_cases ha : at_ < 0
 ·refine mc_runs CE ?_
  simp -implicitDefEqProofs [M_w19_DescPrefix, hs, hs', ha, ge0]
 rcases scan_call_eq (s := s) (by omega) with ⟨k, e, he, hg, _⟩ | ⟨ts, hts, hg, hlen⟩
 ·have hb : (e != 0) = true := by simpa using he
  refine mc_runs CE ?_
  simp -implicitDefEqProofs [M_w19_DescPrefix, hs, hs', ha, hg, hb, he, ge0]
 have hlt : lenslM (.t (treeS eTok ts)) = some (.t (iv (ts.length : Int))) := (IsS.tree eTok ts).len
 by_cases h1 : (ts.length : Int) < at_
 ·generalize treeS eTok ts = tt at hg hlt
  refine mc_runs CE ?_
  simp -implicitDefEqProofs [M_w19_DescPrefix, hs, hs', ha, hg, hlt, h1, ge0]
 obtain ⟨i, rfl⟩ := Int.eq_ofNat_of_zero_le (show 0 <= at_ by omega)
 have hin : i <= ts.length := by omega
 have k3 : ¬ (i : Int) < 0 := by omega
 have k1 : ¬ ts.length < i := by omega
 have hrd := gRead_eq (i := i) (IsS.tree eTok ts) (by omega) hin
 cases hd : desS (ts.map kt) 64 i with
 | error e =>
  have he : e ≠ 0 := des_err _ _ _ hd
  have hb : (e != 0) = true := by simpa using he
  rw [hd] at hrd
  have hrd : gRead [treeS eTok ts, iv (i : Int)] = some (.tu [dT zDs, iv 0, iv e]) := hrd
  have st0 := st_z0' zDs
  generalize dT zDs = td at hrd st0
  generalize treeS eTok ts = tt at hg hlt hrd
  refine mc_runs CE ?_
  simp -implicitDefEqProofs [M_w19_DescPrefix, hs, hs', k3, hg, hlt, h1, k1, hrd, st0, hb, he, ge0]
 | ok y =>
  obtain ⟨d, k⟩ := y
  rw [hd] at hrd
  have hrd : gRead [treeS eTok ts, iv (i : Int)] = some (.tu [dT d, iv (k : Int), iv 0]) := hrd
  obtain ⟨hik, hkl⟩ := des_fwd _ _ _ _ hd
  rw [List.length_map] at hkl
  have htk := des_take (l := ts.map kt) (k := k) (by rw [List.length_map]; exact hkl) 64 i d k hd (Nat.le_refl _)
  rw [<- List.map_take] at htk
  have hsm : Small d := (des_small hts (ts.map kt).length (by rw [List.take_length]; exact hd)).2
  obtain ⟨t1, hsl, hi1⟩ := (IsS.tree eTok ts).slice_to hkl .i64
  have hsl : sliceM 3 (.t (treeS eTok ts)) none (some (.t (iv (k : Int)))) = some (.t t1) := hsl
  have hr2 := gRead_eq (i := i) hi1 (by rw [List.length_take]; omega) (by rw [List.length_take]; omega)
  rw [htk] at hr2
  have hr2 : gRead [t1, iv (i : Int)] = some (.tu [dT d, iv (k : Int), iv 0]) := hr2
  have C : Ctx Tryz.prog (G q) (orc [(13, gEx), (16, gScan), (17, gRead), (19, gSd d.depth)]) := (TblOK.cons hEx (.cons hRScan (.cons hRead (.cons (hSd d.depth) .nil)))).ctx mixed
  have h5 := sd_self hsm
  have st0 := st_z0' d
  have st1 := st_z1 [(0, dC d)] d
  have l0 := lc10 d d []
  have l1 := lc1 d [(0, dC d)]
  have k4 : ¬ k <= i := by omega
  have k5 : ¬ ts.length < k := by omega
  have k4' : ¬ (k : Int) <= (i : Int) := by omega
  have k5' : ¬ (ts.length : Int) < (k : Int) := by omega
  generalize dT d = td at hrd hr2 h5 st0 st1 l0 l1
  generalize treeS eTok ts = tt at hg hlt hrd hsl
  refine mc_runs C ?_
  simp -implicitDefEqProofs [M_w19_DescPrefix, hs, hs', k3, hg, hlt, h1, k1, hrd, k4, k5, k4', k5', hsl, hr2, st0, st1, l0, l1, h5, ge0]
def gZ : List UInt8 := [9, 37, 32, 60, 33, 10, 32]
def rZ : List UInt8 := [37, 32, 91, 10]
def tZ (ts : List Tok) : List UInt8 := ts.flatMap fun t => t.t ++ gZ
theorem gap_scan (f : Nat) (Y : List UInt8) (l : Nat) : scanC f false (gZ ++ Y) l = scanC f false Y (l + 1) := by
 have hk : skipS false (gZ ++ Y) = ((skipS false Y).1 + 7, (skipS false Y).2 + 1) := by
  show skipS false (9 :: 37 :: 32 :: 60 :: 33 :: 10 :: 32 :: Y) = _
  rw [skipS, if_neg (by decide), if_neg (by decide), if_pos (by decide)]
  rw [skipS, if_neg (by decide), if_pos (by decide)]
  rw [skipS, if_neg (by decide), if_pos (by decide)]
  rw [skipS, if_neg (by decide), if_pos (by decide)]
  rw [skipS, if_neg (by decide), if_pos (by decide)]
  rw [skipS, if_pos (by decide)]
  rw [skipS, if_neg (by decide), if_neg (by decide), if_pos (by decide)]
 unfold scanC
 rw [hk]
 have e1 : (gZ ++ Y).drop ((skipS false Y).1 + 7) = Y.drop (skipS false Y).1 := by
  rw [Nat.add_comm]
  exact List.drop_length_add_append (l₁ := gZ) (i := (skipS false Y).1)
 show scanG f ((gZ ++ Y).drop ((skipS false Y).1 + 7)) (l + ((skipS false Y).2 + 1)) = _
 rw [e1, show l + ((skipS false Y).2 + 1) = l + 1 + (skipS false Y).2 by omega]
theorem pre_scan (f : Nat) (Y : List UInt8) (l : Nat) : scanC f false (rZ ++ Y) l = scanC f false Y (l + 1) := by
 have hk : skipS false (rZ ++ Y) = ((skipS false Y).1 + 4, (skipS false Y).2 + 1) := by
  show skipS false (37 :: 32 :: 91 :: 10 :: Y) = _
  rw [skipS, if_neg (by decide), if_pos (by decide)]
  rw [skipS, if_neg (by decide), if_pos (by decide)]
  rw [skipS, if_neg (by decide), if_pos (by decide)]
  rw [skipS, if_pos (by decide)]
 unfold scanC
 rw [hk]
 have e1 : (rZ ++ Y).drop ((skipS false Y).1 + 4) = Y.drop (skipS false Y).1 := by
  rw [Nat.add_comm]
  exact List.drop_length_add_append (l₁ := rZ) (i := (skipS false Y).1)
 show scanG f ((rZ ++ Y).drop ((skipS false Y).1 + 4)) (l + ((skipS false Y).2 + 1)) = _
 rw [e1, show l + ((skipS false Y).2 + 1) = l + 1 + (skipS false Y).2 by omega]
theorem sep_gap (Y : List UInt8) : Sep (gZ ++ Y) := fun c r h => by
 have h : (9 : UInt8) :: _ = c :: r := h
 injection h with h _
 rw [<- h]
 exact .inr (.inr (by decide))
theorem scan_tail : ∀ (ts : List Tok) (l f : Nat), (∀ t ∈ ts, TokOK t /\ t.k ≠ 3) -> (tZ ts).length < f -> ∃ us, scanC f false (tZ ts) l = .ok us /\ us.map kt = ts.map kt
 | [], l, f, _, hf => by
  obtain ⟨f, rfl⟩ : ∃ g, f = g + 1 := ⟨f - 1, by omega⟩
  exact ⟨[], rfl, rfl⟩
 | t :: ts, l, f, hok, hf => by
  obtain ⟨f, rfl⟩ : ∃ g, f = g + 1 := ⟨f - 1, by omega⟩
  obtain ⟨ht, h3⟩ := hok t (by simp)
  obtain ⟨c, r, hw, he, hk, htt, hn⟩ := ht.next
  have hw' : t.t = c :: r := by
   rw [<- hw, wrT, wr, if_neg h3]
  have hL : tZ (t :: ts) = c :: (r ++ (gZ ++ tZ ts)) := by
   show (t.t ++ gZ) ++ tZ ts = _
   rw [hw', List.append_assoc]; rfl
  have hx : nextS (c :: (r ++ (gZ ++ tZ ts))) = nextS (c :: r) := next_app c r (sep_gap (tZ ts)) he
  have hxe : (nextS (c :: (r ++ (gZ ++ tZ ts)))).e = 0 := by rw [hx]; exact he
  have hsk := next_head c (r ++ (gZ ++ tZ ts)) hxe
  rw [hL] at hf ⊢
  rw [scanC, hsk]
  have st := scan_step f c (r ++ (gZ ++ tZ ts)) l hxe
  have hd : (c :: (r ++ (gZ ++ tZ ts))).drop (nextS (c :: (r ++ (gZ ++ tZ ts)))).n = gZ ++ tZ ts := by
   rw [hx, hn]
   exact List.drop_left' (l₁ := c :: r) rfl
  rw [hd, gap_scan] at st
  obtain ⟨us, h1, h2⟩ := scan_tail ts (l + 1) f (fun t h => hok t (by simp [h])) (by simp [gZ] at hf; omega)
  rw [h1] at st
  refine ⟨_, st, ?_⟩
  rw [List.map_cons, List.map_cons, h2]
  congr 1
  show (_, _) = (_, _)
  rw [hx, hk, htt]
theorem tail_len : ∀ ts : List Tok, (∀ t ∈ ts, t.k ≠ 3) -> (tZ ts).length = (ts.flatMap wrT).length + 7 * ts.length
 | [], _ => rfl
 | t :: ts, h => by
  have i := tail_len ts fun t ht => h t (by simp [ht])
  have e : wrT t = t.t := by rw [wrT, wr, if_neg (h t (by simp))]
  unfold tZ at i ⊢
  rw [List.flatMap_cons, List.flatMap_cons, List.length_append, List.length_append, List.length_append, i, e, List.length_cons]
  show t.t.length + 7 + _ = _
  omega
theorem par_spaces {s : List UInt8} {ts : List Tok} (hs : s.length <= 1000) (h : scanS s 1 = .ok ts) (h3 : ∀ t ∈ ts, t.k ≠ 3) : parS (rZ ++ tZ ts) = parS s /\ (rZ ++ tZ ts).length <= 8100 := by
 obtain ⟨h1, h2⟩ := scanG_ok _ _ _ _ h
 have h4 := scanS_len h
 rw [List.length_drop] at h2
 have hl := tail_len ts h3
 have hlen : (rZ ++ tZ ts).length <= 8100 := by
  rw [List.length_append, hl]
  show 4 + _ <= _
  omega
 obtain ⟨us, e1, e2⟩ := scan_tail ts 2 ((rZ ++ tZ ts).length + 1) (fun t ht => ⟨h1 t ht, h3 t ht⟩) (by rw [List.length_append]; omega)
 have e3 : scanS (rZ ++ tZ ts) 1 = .ok us := by
  rw [scanC_def, pre_scan]
  exact e1
 have e4 : us.length = ts.length := by
  have := congrArg List.length e2
  rwa [List.length_map, List.length_map] at this
 refine ⟨?_, hlen⟩
 unfold parS toksS
 rw [if_neg (by omega), if_neg (by omega), e3, h]
 simp only
 rw [e2, e4]
theorem wr_tail (ts : List Tok) (t : Tok) : tZ (ts ++ [t]) = tZ ts ++ (t.t ++ gZ) := by
 unfold tZ
 rw [List.flatMap_append]
 simp
theorem par_len {s : List UInt8} {d : Ds} (hs : s.length <= 1000) (h : parS s = .ok d) : (wrD d).length <= 16000 := by
 unfold parS toksS at h
 rw [if_neg (by omega)] at h
 split at h
 ·cases h
 ·rename_i ts hts
  split at hts
  ·cases hts
  ·rename_i us hus
   injection hts with hts; subst hts
   split at h
   ·cases h
   ·rename_i d' n hd
    split at h
    ·cases h
    ·injection h with h; subst h
     have hg := des_good (scan_toks hus) 64 (by omega) _ _ _ hd
     have h1 := hg.len
     have hb : ∀ n, Bt (us.map kt) n <= (us.flatMap wrT).length + us.length := by
      intro n
      have key : ∀ l : List Tok, ((l.map kt).map tkl).sum <= (l.flatMap wrT).length + l.length := by
       intro l
       induction l with
       | nil => simp
       | cons t l ih =>
        have : tkl (kt t) <= (wrT t).length + 1 := by
         unfold tkl wrT wr kt
         simp only
         split
         ·omega
         ·split <;> simp <;> omega
        rw [List.map_cons, List.map_cons, List.sum_cons, List.flatMap_cons, List.length_append, List.length_cons]
        omega
      have hle : Bt (us.map kt) n <= (((us.map kt)).map tkl).sum := by
       unfold Bt
       conv => rhs; rw [<- List.take_append_drop n (us.map kt), List.map_append, List.sum_append]
       omega
      exact Nat.le_trans hle (key us)
     obtain ⟨_, g2⟩ := scanG_ok _ _ _ _ hus
     have g3 := scanS_len hus
     rw [List.length_drop] at g2
     have g4 := hb n
     omega
def SSp (s : ByteArray) (tt : T) (e : Int) (ts : List Tok) (j : Nat) : AState := ⟨[(7, .t (iv (j : Int))), (6, .t (sv (bs (rZ ++ tZ (ts.take j))))), (5, .t (iv e)), (3, .t tt), (0, .t (sv s))], [], 0, 111⟩
def SSpE (s : ByteArray) (e : Int) (ts : List Tok) : AState := ⟨[(6, .t (sv (bs (rZ ++ tZ ts)))), (5, .t (iv e)), (0, .t (sv s))], [], 0, 111⟩
theorem spaces_law (s : ByteArray) : CallT Tryz.prog (G q) 8 [sv s] (· = bv true) := by
 have CE : Ctx Tryz.prog (G q) (orc [(13, gEx), (16, gScan), (20, gParse)]) := (TblOK.cons hEx (.cons hRScan (.cons hParse .nil))).ctx mixed
 refine k_w19_DescSpaces.call rfl ?_
 by_cases hs : 1000 < s.size
 ·have hs' : (1000 : Int) < (s.size : Int) := by omega
  refine mc_runs CE ?_
  simp -implicitDefEqProofs [M_w19_DescSpaces, hs, hs', ge0]
 have hs' : ¬ (1000 : Int) < (s.size : Int) := by omega
 have hsl : s.data.toList.length <= 1000 := by
  have : s.data.toList.length = s.size := rfl
  omega
 have hpS := gParse_eq (s := s) (by omega)
 -- what the scan says
 obtain ⟨ts, e, k0, hg, hsc⟩ : ∃ (ts : List Tok) (e k0 : Int), gScan [sv s] = some (.tu [treeS eTok ts, iv k0, iv e]) /\ ((e ≠ 0 /\ ts = [] /\ parT (parS s.data.toList) = .tu [dT zDs, iv e]) \/ (e = 0 /\ scanS s.data.toList 1 = .ok ts /\ ts.length <= s.size)) := by
  rcases scan_call_eq (s := s) (by omega) with ⟨k, e, he, hg, hsc⟩ | ⟨ts, hts, hg, hlen⟩
  ·refine ⟨[], e, k, hg, .inl ⟨he, rfl, ?_⟩⟩
   unfold parS toksS
   rw [if_neg (by omega), hsc]
   rfl
  ·exact ⟨ts, 0, 0, hg, .inr ⟨rfl, hts, hlen⟩⟩
 have htl : ts.length <= 1000 := by
  rcases hsc with ⟨_, rfl, _⟩ | ⟨_, _, h⟩
  ·exact Nat.zero_le _
  ·omega
 have htk : ∀ j, j <= ts.length -> (∀ t ∈ ts.take j, t.k ≠ 3) -> (rZ ++ tZ (ts.take j)).length <= 8100 := fun j hj h3 => by
  rcases hsc with ⟨_, rfl, _⟩ | ⟨_, h, _⟩
  ·simp [tZ, rZ]
  ·obtain ⟨h1, h2⟩ := scanG_ok _ _ _ _ h
   rw [List.length_drop] at h2
   have hl := tail_len (ts.take j) h3
   have h4 : ((ts.take j).flatMap wrT).length <= (ts.flatMap wrT).length := by
    conv => rhs; rw [<- List.take_append_drop j ts, List.flatMap_append, List.length_append]
    omega
   rw [List.length_append, hl, List.length_take]
   show 4 + _ <= _
   omega
 have hlt : lenslM (.t (treeS eTok ts)) = some (.t (iv (ts.length : Int))) := (IsS.tree eTok ts).len
 have hat := fun {j : Nat} {x : Tok} (hx : ts[j]? = some x) => (IsS.tree eTok ts).iaddr hx .i64
 generalize treeS eTok ts = tt at hg hlt hat
 unfold M_w19_DescSpaces
 refine mc_seq_runs CE ?_
 simp -implicitDefEqProofs
 refine mc_seq_runs CE ?_
 simp -implicitDefEqProofs [hs, hs']
 refine mc_seq_runs CE ?_
 simp -implicitDefEqProofs [hg]
 refine mc_seq_runs CE ?_
 simp -implicitDefEqProofs
 refine mc_cut (α := Unit) (fun _ => SSpE s e ts) (fun _ => ∀ t ∈ ts, t.k ≠ 3) (fun _ => rfl) ?_ ?_
 ·refine mc_seq_runs CE ?_
  simp -implicitDefEqProofs
  refine mc_block ?_
  refine mc_while (SSp s tt e ts) (fun j => ts.length - j) (fun j => j <= ts.length /\ ∀ t ∈ ts.take j, t.k ≠ 3) 0 (fun _ => rfl) ⟨Nat.zero_le _, fun t h => by simp at h⟩ (sub_forget rfl rfl (by simp -implicitDefEqProofs [SSp, rZ, tZ]) (by simp -implicitDefEqProofs [SSp])) rfl ?_
  rintro j ⟨hj, h3⟩
  have hlen := htk j hj h3
  by_cases hjl : j < ts.length
  ·obtain ⟨x, hx⟩ : ∃ x, ts[j]? = some x := ⟨_, List.getElem?_eq_getElem hjl⟩
   have hxe : ts[j] = x := by rw [List.getElem?_eq_getElem hjl] at hx; injection hx
   have hjl' : (j : Int) < (ts.length : Int) := by omega
   have i1 : iaddrM 3 (.t tt) (.t (iv (j : Int))) = some (.t (.pt (iv x.k :: sv (bs x.t) :: iv (x.l : Int) :: rest eTok ts j))) := hat hx
   have htn : ts.take (j + 1) = ts.take j ++ [x] := by rw [List.take_add_one, hx]; rfl
   by_cases hk : x.k = 3
   ·have hb : (x.k == 3) = true := by simpa using hk
    refine mc_runs CE ?_
    simp -implicitDefEqProofs [SSp, hlt, hjl, hjl', i1, lh1, hb, hk, ge0]
   ·have hb : (x.k == 3) = false := by simpa using hk
    obtain ⟨j1, hj1⟩ : ∃ j1, j1 = j + 1 := ⟨_, rfl⟩
    have ej : IntKind.i64.wrap ((j : Int) + 1) = (j1 : Int) := wrap_nat (by omega) (by omega)
    have h3n : ∀ t ∈ ts.take j1, t.k ≠ 3 := fun t ht => by
     rw [hj1, htn] at ht
     rcases List.mem_append.1 ht with ht | ht
     ·exact h3 t ht
     ·rw [List.mem_singleton.1 ht]; exact hk
    have hl2 := htk j1 (by omega) h3n
    have hcat : rZ ++ tZ (ts.take j1) = rZ ++ tZ (ts.take j) ++ x.t ++ gZ := by
     rw [hj1, htn, wr_tail]
     simp only [List.append_assoc]
    have hl3 : (rZ ++ tZ (ts.take j)).length + x.t.length + 7 <= 8100 := by
     rw [hcat, List.length_append, List.length_append] at hl2
     exact hl2
    obtain ⟨A, hA⟩ : ∃ A, A = rZ ++ tZ (ts.take j) := ⟨_, rfl⟩
    rw [<- hA] at hl3 hcat
    have a1 := sadd (a := A) (b := x.t) (by omega)
    have a2 := sadd (a := A ++ x.t) (b := gZ) (by rw [List.length_append]; show _ + 7 <= _; omega)
    have hS : SSp s tt e ts j = ⟨[(7, .t (iv (j : Int))), (6, .t (sv (bs A))), (5, .t (iv e)), (3, .t tt), (0, .t (sv s))], [], 0, 111⟩ := by rw [hA]; rfl
    rw [hS]
    have eg : (⟨#[9, 37, 32, 60, 33, 10, 32]⟩ : ByteArray) = bs gZ := rfl
    refine mc_runs CE ?_
    simp -implicitDefEqProofs [hlt, hjl, hjl', i1, lh1, hb, hk, a1, eg, a2, ej]
    refine Abs.Next.mk j1 ⟨⟨by omega, h3n⟩, by omega⟩ ?_
    refine sub_forget rfl rfl ?_ ?_
    ·simp -implicitDefEqProofs [SSp, hcat]
    ·simp -implicitDefEqProofs [SSp]
  ·have hje : j = ts.length := by omega
   have hjl' : ¬ (j : Int) < (ts.length : Int) := by omega
   rw [hje, List.take_length] at h3
   refine mc_runs CE ?_
   simp -implicitDefEqProofs [SSp, hlt, hjl, hjl']
   refine Abs.Next.mk () h3 (sub_forget rfl rfl ?_ ?_)
   ·simp -implicitDefEqProofs [SSpE, hje]
   ·simp -implicitDefEqProofs [SSpE]
 rintro ⟨⟩ h3
 rcases hsc with ⟨he, _, hp⟩ | ⟨rfl, hsc, _⟩
 ·have hb : (e != 0) = true := by simpa using he
  rw [hp] at hpS
  have st0 := st_z0' zDs
  generalize dT zDs = td at hpS st0
  refine mc_runs CE ?_
  simp -implicitDefEqProofs [SSpE, hpS, st0, hb, he, ge0]
 obtain ⟨hpl, hll⟩ := par_spaces hsl hsc h3
 have hpL := gParse_eq (s := bs (rZ ++ tZ ts)) (by show (rZ ++ tZ ts).length <= _; omega)
 rw [show (bs (rZ ++ tZ ts)).data.toList = rZ ++ tZ ts from rfl, hpl] at hpL
 cases hd : parS s.data.toList with
 | error f =>
  rw [hd] at hpS hpL
  have hpS : gParse [sv s] = some (.tu [dT zDs, iv f]) := hpS
  have hpL : gParse [sv (bs (rZ ++ tZ ts))] = some (.tu [dT zDs, iv f]) := hpL
  have st0 := st_z0' zDs
  have st1 := st_z1 [(0, dC zDs)] zDs
  generalize dT zDs = td at hpS hpL st0 st1
  have hf := par_err hd
  have hb : (f != 0) = true := by simpa using hf
  refine mc_runs CE ?_
  simp -implicitDefEqProofs [SSpE, hpS, hpL, st0, st1, hb, hf, ge0]
 | ok d =>
  rw [hd] at hpS hpL
  have hpS : gParse [sv s] = some (.tu [dT d, iv 0]) := hpS
  have hpL : gParse [sv (bs (rZ ++ tZ ts))] = some (.tu [dT d, iv 0]) := hpL
  obtain ⟨hck, hsm⟩ := par_small hd
  have hwl := par_len hsl hd
  have hnd := nodes_wr d 1 hck
  have hpr := gPrint_eq (IsD.enc d) hsm.sized fun h => hsm.wr (by omega) h
  have hprT : priT d = .tu [sv (bs (wrD d)), iv 0] := by
   unfold priT
   rw [if_neg (by rw [hck]; decide), if_neg (by omega)]
  rw [hprT] at hpr
  have hch := gCheck_eq (IsD.enc d) hsm.sized
  rw [hck] at hch
  have hpp := gParse_eq (s := bs (wrD d)) (by show (wrD d).length <= _; omega)
  rw [show (bs (wrD d)).data.toList = wrD d from rfl, parse_wr hck (by omega)] at hpp
  have hpp : gParse [sv (bs (wrD d))] = some (.tu [dT d, iv 0]) := hpp
  have C : Ctx Tryz.prog (G q) (orc [(13, gEx), (20, gParse), (22, gPrint), (14, gCheck), (19, gSd d.depth)]) := (TblOK.cons hEx (.cons hParse (.cons hPrint (.cons hDCheck (.cons (hSd d.depth) .nil))))).ctx mixed
  have h5 := sd_self hsm
  have hpr : gPrint [dT d] = some (.tu [sv (bs (wrD d)), iv 0]) := by rw [dT]; exact hpr
  have hch : gCheck [dT d] = some (iv 0) := by rw [dT]; exact hch
  have st0 := st_z0' d
  have st1 := st_z1 [(0, dC d)] d
  have st2 : storeM 4 ((2, zD) :: [(1, dC d), (0, dC d)]) (.ptr 2 0) (.t (dT d)) = some [(2, dC d), (1, dC d), (0, dC d)] := by cases d; rw [dT, dC, encD]; rfl
  have l0 : loadM true 4 [(1, dC d), (0, dC d)] (.ptr 0 0) = some (.t (dT d)) := ld_d rfl
  have m0 : loadM true 4 [(2, dC d), (1, dC d), (0, dC d)] (.ptr 0 0) = some (.t (dT d)) := ld_d rfl
  have m1 : loadM true 4 [(2, dC d), (1, dC d), (0, dC d)] (.ptr 1 0) = some (.t (dT d)) := ld_d rfl
  have m2 : loadM true 4 [(2, dC d), (1, dC d), (0, dC d)] (.ptr 2 0) = some (.t (dT d)) := ld_d rfl
  generalize dT d = td at hpS hpL hpp h5 hpr hch st0 st1 st2 l0 m0 m1 m2
  generalize bs (wrD d) = w at hpr hpp
  refine mc_runs C ?_
  simp -implicitDefEqProofs [SSpE, hpS, hpL, hpr, hpp, hch, st0, st1, st2, l0, m0, m1, m2, h5, ge0]
end Go.Proofs.YtjkkgbdoeaihmaaGreatDoor
