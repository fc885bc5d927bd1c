/-
  The examples of chapter 01 hold.
  The laws TextNames and TextNumbers return true. No statement of the program stands here.
  What the row's words give the walk: the variables' cells. No statement of the program stands here.
  Strings and numbers that came in. No statement of the program stands here.
-/
import Derived.Test.YtbabdjhikamkoaaDoorQ13
import Derived.Test.YtbabdjhikamkoaaDoorQ6
import Derived.Test.YtbabdjhikamkoaaDoorCards
import Derived.Test.YtbabdjhikamkoaaDoorTie
import Derived.Deep.DeepHandedRow
import Derived.Stop.LaidErr
namespace Go.Proofs.YtbabdjhikamkoaaDoor
set_option linter.unusedSimpArgs false
set_option linter.unusedVariables false
open Go Go.Abs
variable {q : Gl}

abbrev strOf (l : List UInt8) : T := .v (.string ⟨l.toArray⟩)
theorem x_scan1 : CallT Tryd.prog (G q) 24 [strOf [97, 32, 37, 32, 98, 10, 60, 33, 99]] (· = .tu [.sl 3 [iv 1, strOf [97], iv 1, iv 5, strOf [60, 33], iv 2, iv 1, strOf [99], iv 2], iv 0, iv 0]) :=
  (scan_call ⟨#[97, 32, 37, 32, 98, 10, 60, 33, 99]⟩ (by decide)).mono fun r h => h.trans (by kernel_rfl)
theorem x_scan2 : CallT Tryd.prog (G q) 24 [strOf [120, 32, 34, 121]] (· = .tu [nilS, iv 1, iv 9]) :=
  (scan_call ⟨#[120, 32, 34, 121]⟩ (by decide)).mono fun r h => h.trans (by kernel_rfl)
theorem x_words : CallT Tryd.prog (G q) 21 [strOf [116, 104, 101, 32, 100, 111, 103]] (· = .tu [.sl 2 [strOf [116, 104, 101], strOf [100, 111, 103]], iv 0]) :=
  (words_call ⟨#[116, 104, 101, 32, 100, 111, 103]⟩ (by decide)).mono fun r h => h.trans (by kernel_rfl)
theorem x_num : CallT Tryd.prog (G q) 17 [strOf [45, 48]] (· = .tu [iv 0, iv 8]) :=
  (number_call ⟨#[45, 48]⟩ (by decide)).mono fun r h => h.trans (by kernel_rfl)
theorem x_name1 : CallT Tryd.prog (G q) 11 [strOf [115, 103, 45, 110, 111, 117, 110]] (· = bv true) :=
  (name_call ⟨#[115, 103, 45, 110, 111, 117, 110]⟩ (by decide)).mono fun r h => h.trans (by kernel_rfl)
theorem x_name2 : CallT Tryd.prog (G q) 11 [strOf [50, 110, 100]] (· = bv false) :=
  (name_call ⟨#[50, 110, 100]⟩ (by decide)).mono fun r h => h.trans (by kernel_rfl)
theorem x_feat : CallT Tryd.prog (G q) 13 [strOf [72, 69, 65, 68, 45, 68, 84, 82]] (· = bv true) :=
  (feature_call ⟨#[72, 69, 65, 68, 45, 68, 84, 82]⟩ (by decide)).mono fun r h => h.trans (by kernel_rfl)
theorem x_word : CallT Tryd.prog (G q) 15 [strOf [100, 111, 110, 39, 116]] (· = bv true) :=
  (word_call ⟨#[100, 111, 110, 39, 116]⟩ (by decide)).mono fun r h => h.trans (by kernel_rfl)
theorem x_dec : CallT Tryd.prog (G q) 19 [iv (-12)] (· = strOf [45, 49, 50]) :=
  (decimal_call (-12) ⟨by decide, by decide⟩).mono fun r h => h.trans (by
    have : Lib.itoa (-12) = [45, 49, 50] := by
      unfold Lib.itoa
      rw [if_pos (by decide), show (-12 : Int).natAbs = 12 from rfl, Lib.decDigits_two (by decide) (by decide)]
      rfl
    rw [this])

def tabX : List (Nat × FnM) := [(10, ⟨0, 105, M_w01_exampleHolds, [(.tmp 0)]⟩)]
theorem tabX_ok : TabOK Tryd.prog (G q) tabX := by
  intro p hp
  simp only [tabX, List.mem_singleton] at hp
  subst hp
  exact k_w01_exampleHolds

theorem memo_ok : MemoOK Tryd.prog (G q) [(24, [strOf [97, 32, 37, 32, 98, 10, 60, 33, 99]], .tu [.sl 3 [iv 1, strOf [97], iv 1, iv 5, strOf [60, 33], iv 2, iv 1, strOf [99], iv 2], iv 0, iv 0]), (24, [strOf [120, 32, 34, 121]], .tu [nilS, iv 1, iv 9]),
    (21, [strOf [116, 104, 101, 32, 100, 111, 103]], .tu [.sl 2 [strOf [116, 104, 101], strOf [100, 111, 103]], iv 0]), (17, [strOf [45, 48]], .tu [iv 0, iv 8]), (11, [strOf [115, 103, 45, 110, 111, 117, 110]], bv true), (11, [strOf [50, 110, 100]], bv false),
    (13, [strOf [72, 69, 65, 68, 45, 68, 84, 82]], bv true), (15, [strOf [100, 111, 110, 39, 116]], bv true), (19, [iv (-12)], strOf [45, 49, 50])] :=
  .cons x_scan1 (.cons x_scan2 (.cons x_words (.cons x_num (.cons x_name1 (.cons x_name2 (.cons x_feat (.cons x_word (.cons x_dec .nil))))))))

theorem example1 : CallT Tryd.prog (G q) 10 [] (· = bv true) := (callM'_sound mixed tabX_ok memo_ok 10 3).t _ _ _ (by kernel_rfl)
def gEx : List T → Option T
  | [] => some (bv true)
  | _ => none
theorem hEx : GOK Tryd.prog (G q) 10 gEx := fun args r hr => by
  unfold gEx at hr
  split at hr
  · injection hr with hr; subst hr; exact example1
  · cases hr
end Go.Proofs.YtbabdjhikamkoaaDoor

namespace Go.Proofs.YtbabdjhikamkoaaDoor
set_option linter.unusedSimpArgs false
set_option linter.unusedVariables false
open Go Go.Abs
variable {q : Gl}

noncomputable def gStr (f : ByteArray → T) (n : Nat) : List T → Option T := g1 tStr fun s => if s.size ≤ n then some (f s) else none
theorem gStr_ok {F : Nat} {f : ByteArray → T} {n : Nat} (h : ∀ s : ByteArray, s.size ≤ n → CallT Tryd.prog (G q) F [sv s] (· = f s)) : GOK Tryd.prog (G q) F (gStr f n) :=
  g1_ok fun a s r ha hr => by
    have e1 : a = sv s := ha
    subst e1
    split at hr
    · rename_i hs; injection hr with hr; subst hr; exact h s hs
    · cases hr
theorem gStr_eq {f : ByteArray → T} {n : Nat} {s : ByteArray} (h : s.size ≤ n) : gStr f n [.v (.string s)] = some (f s) := by
  rw [gStr, g1_eq (τ := tStr) (x := s) rfl, if_pos h]

noncomputable def tbK1 : Tbl := [(10, gEx), (11, gStr (fun s => bv (isNamed false s)) lim), (12, gStr (fun s => bv (isNamed false s)) lim), (13, gStr (fun s => bv (isNamed true s)) lim), (14, gStr (fun s => bv (isNamed true s)) lim),
  (15, gStr (fun s => bv (isWord s)) lim), (16, gStr (fun s => bv (isWord s)) lim)]
theorem ctxK1 : Ctx Tryd.prog (G q) (orc tbK1) := (TblOK.cons hEx (.cons (gStr_ok name_call) (.cons (gStr_ok rname_call) (.cons (gStr_ok feature_call) (.cons (gStr_ok rfeature_call) (.cons (gStr_ok word_call) (.cons (gStr_ok rword_call) .nil))))))).ctx mixed

theorem names_law (s : ByteArray) (hs : s.size ≤ lim) : CallT Tryd.prog (G q) 3 [sv s] (· = bv true) := by
  refine k_w01_TextNames.runs ctxK1 rfl ?_
  have ex : gEx [] = some (bv true) := rfl
  have q1 := gStr_eq (f := fun s => bv (isNamed false s)) hs
  have q2 := gStr_eq (f := fun s => bv (isNamed true s)) hs
  have q3 := gStr_eq (f := fun s => bv (isWord s)) hs
  by_cases h : 200 < s.size
  · have h' : (200 : Int) < (s.size : Int) := by omega
    simp -implicitDefEqProofs [M_w01_TextNames, h', tbK1, ex]
  · have h' : ¬ (200 : Int) < (s.size : Int) := by omega
    simp -implicitDefEqProofs [M_w01_TextNames, h', tbK1, ex, q1, q2, q3]

noncomputable def gRDec (F : Int → T) : List T → Option T := g1 tInt fun n => if -9223372036854775808 ≤ n ∧ n ≤ 9223372036854775807 then some (F n) else none
theorem gRDec_ok {f : Nat} {F : Int → T} (h : ∀ n : Int, -9223372036854775808 ≤ n ∧ n ≤ 9223372036854775807 → CallT Tryd.prog (G q) f [iv n] (· = F n)) : GOK Tryd.prog (G q) f (gRDec F) :=
  g1_ok fun a n r ha hr => by
    have e1 : a = iv n := ha
    subst e1
    split at hr
    · rename_i hs; injection hr with hr; subst hr; exact h n hs
    · cases hr
theorem gRDec_eq {F : Int → T} {n : Int} (h : -9223372036854775808 ≤ n ∧ n ≤ 9223372036854775807) : gRDec F [.v (.int .i64 n)] = some (F n) := by
  rw [gRDec, g1_eq (τ := tInt) (x := n) rfl, if_pos h]

noncomputable def tbK2 : Tbl := [(10, gEx), (17, gStr (fun s => numT s.data.toList) 281474976710656), (18, gStr (fun s => numT s.data.toList) 281474976710656), (19, gRDec fun n => sv (bs (Lib.itoa n))), (20, gRDec fun n => sv (bs (Lib.itoa n)))]
theorem ctxK2 : Ctx Tryd.prog (G q) (orc tbK2) := (TblOK.cons hEx (.cons (gStr_ok number_call) (.cons (gStr_ok rnumber_call) (.cons (gRDec_ok decimal_call) (.cons (gRDec_ok rdecimal_call) .nil))))).ctx mixed

theorem numbers_law (s : ByteArray) (n : Int) (hn : -9223372036854775808 ≤ n ∧ n ≤ 9223372036854775807) : CallT Tryd.prog (G q) 4 [sv s, iv n] (· = bv true) := by
  refine k_w01_TextNumbers.runs ctxK2 rfl ?_
  have ex : gEx [] = some (bv true) := rfl
  by_cases h : 200 < s.size
  · have h' : (200 : Int) < (s.size : Int) := by omega
    simp -implicitDefEqProofs [M_w01_TextNumbers, h', tbK2, ex]
  · have h' : ¬ (200 : Int) < (s.size : Int) := by omega
    have q1 := gStr_eq (f := fun s => numT s.data.toList) (n := 281474976710656) (s := s) (by omega)
    have q2 := gRDec_eq (F := fun n => sv (bs (Lib.itoa n))) hn
    simp -implicitDefEqProofs [M_w01_TextNumbers, h', tbK2, ex, q1, q2, extractV, numT]
end Go.Proofs.YtbabdjhikamkoaaDoor

namespace Go.Proofs.YtbabdjhikamkoaaDoor
set_option linter.unusedSimpArgs false
set_option linter.unusedVariables false
open Go Go.Abs Go.ChangeShapes Go.WideShapes Go.ChangeAt Go.RowKit

theorem own : ownKnob Tryd.prog.godebug = none := by kernel_rfl
theorem laidOut : laidOutB Tryd.prog = true := by kernel_rfl

abbrev laidL : List (String × DataW Unit) := [("math/bits.deBruijn32tab", Rows.laid_math_bits_deBruijn32tab), ("math/bits.deBruijn64tab", Rows.laid_math_bits_deBruijn64tab), ("internal/strconv.uint64pow10", Rows.laid_internal_strconv_uint64pow10), ("unicode/utf8.acceptRanges", Rows.laid_unicode_utf8_acceptRanges), ("strconv.ErrRange", Rows.laid_strconv_ErrRange), ("strconv.ErrSyntax", Rows.laid_strconv_ErrSyntax), ("unicode/utf8.first", Rows.laid_unicode_utf8_first)]

set_option maxRecDepth 100000 in
theorem maxLen_var {W : World} (h : W.ShapedOpen Tryd.prog) : ∃ m, W.var? Tryd.prog "internal/bytealg.MaxLen" = some #[.int .i64 m] := by
  obtain ⟨h1, hr1⟩ := h
  clear hr1
  obtain ⟨cs, hw, hsz, hok⟩ := h1 5 #[.int .i64 0] 3 (of_decide_eq_true (by kernel_rfl)) (by kernel_rfl)
  obtain ⟨ts, hts, hnn, hc⟩ := hok (by kernel_rfl)
  have e1 : cs.size = 1 := hsz
  obtain ⟨v, hv⟩ : ∃ v, cs = #[v] := by
    obtain ⟨l⟩ := cs
    cases l with
    | nil => cases e1
    | cons v r => cases r with
      | nil => exact ⟨v, rfl⟩
      | cons _ _ => simp at e1
  subst hv
  obtain ⟨u, hu, hcell⟩ := hc 0 v rfl
  have hts' : ts = [3] := Option.some.inj (hts.symm.trans (show Tryd.prog.cellTypes Tryd.prog.depth 3 = some [3] by kernel_rfl))
  subst hts'
  have hu3 : u = 3 := by simpa using hu.symm
  subst hu3
  unfold Cell.ok at hcell
  have hun := Tryd.underlying3
  generalize Tryd.prog.underlying 3 = d at hcell hun
  subst hun
  cases v <;> simp only at hcell
  case int kd nv =>
    obtain ⟨rfl, hh⟩ := hcell
    refine ⟨nv, ?_⟩
    unfold World.var?
    rw [show Tryd.prog.globalNamed "internal/bytealg.MaxLen" = some 5 by kernel_rfl]
    simp only [Option.bind_some, hw]

theorem star : "*errors.errorString" = "*" ++ "errors.errorString" := by decide
theorem errRow (u : TypeId) (h : Tryd.prog.typeName? 3 u = some "*errors.errorString") : u = 107 :=
  typeName_ptr_named (nm := "errors.errorString") (by rw [← star]; kernel_rfl) (by kernel_rfl) (by decide) u (by rw [← star]; exact h)

theorem globs {W : World} (h : laidMetH Tryd.prog laidL W) (hsh : W.ShapedOpen Tryd.prog) : ∃ q : Gl, ∀ (g : Nat) (cs : List T), Abs.look (G q) g = some cs → Old W g ∧ RepG (Old W) W cs g := by
  have h0 : laidMet Tryd.prog laidL W := h
  have t : Lib.TabIs Tryd.prog W "internal/strconv.uint64pow10" .u64 pow10 := Lib.tabIs_of_head (by kernel_rfl) (show (Tryd.prog.globals[4]?).map (·.type) = some 111 by kernel_rfl) Tryd.underlying111 Tryd.underlying50 (by kernel_rfl) (by kernel_rfl) h0.tail.tail
  obtain ⟨m, hm⟩ := maxLen_var hsh
  obtain ⟨a1, s1, v1, _⟩ := laid_sentinel (g := 1) (ti := 47) (tp := 107) (te := 109) (ts := 9) h0.tail.tail.tail.tail (by kernel_rfl) (by kernel_rfl) Tryd.underlying47 errRow Tryd.underlying107 Tryd.underlying109 rfl rfl Tryd.underlying9 (by kernel_rfl) (by kernel_rfl)
  obtain ⟨a0, s0, v0, _⟩ := laid_sentinel (g := 0) (ti := 47) (tp := 107) (te := 109) (ts := 9) h0.tail.tail.tail.tail.tail (by kernel_rfl) (by kernel_rfl) Tryd.underlying47 errRow Tryd.underlying107 Tryd.underlying109 rfl rfl Tryd.underlying9 (by kernel_rfl) (by kernel_rfl)
  refine ⟨⟨m, 107, .pointer (some a0), 107, .pointer (some a1)⟩, fun g cs hl => ?_⟩
  simp only [G, Abs.look] at hl
  split at hl
  · rename_i e; subst e; injection hl with hl; subst hl
    exact glob_var (vs := [.iface 107 (.pointer (some a0))]) v0 (by kernel_rfl) (by intro x hx; simp at hx; subst hx; rfl)
  · split at hl
    · rename_i e; subst e; injection hl with hl; subst hl
      exact glob_var (vs := [.iface 107 (.pointer (some a1))]) v1 (by kernel_rfl) (by intro x hx; simp at hx; subst hx; rfl)
    · split at hl
      · rename_i e; subst e; injection hl with hl; subst hl
        exact glob_tab t (by kernel_rfl)
      · split at hl
        · rename_i e; subst e; injection hl with hl; subst hl
          exact glob_var (vs := [.int .i64 m]) hm (by kernel_rfl) (by intro x hx; simp at hx; subst hx; rfl)
        · cases hl

/-! A world for the witness: each listed variable holds what its initialiser lays. -/
def litV : Lit → Value
  | .int k n => .int k n
  | _ => undef
def cells1 : DataW Unit → List Value
  | .lit x => [litV x]
  | .agg l => l.flatMap fun | .lit x => [litV x] | _ => []
  | _ => []
def cells2 : DataW Unit → List Value
  | .agg l => l.flatMap cells1
  | _ => []
noncomputable def low : Nat := (World.holding Tryd.prog default ⟨#[], #[], []⟩).heap.size
def putC (h : Array Obj) (g : Nat) (cs : Array Value) : Array Obj := h.modify g fun
  | .cells _ t frozen => .cells cs t frozen
  | o => o
noncomputable def laidWorld (os : Os) : World :=
  let w0 := World.holding Tryd.prog os ⟨#[.cells #[.string ⟨#[105, 110, 118, 97, 108, 105, 100, 32, 115, 121, 110, 116, 97, 120]⟩] 109, .cells #[.string ⟨#[118, 97, 108, 117, 101, 32, 111, 117, 116, 32, 111, 102, 32, 114, 97, 110, 103, 101]⟩] 109], #[], []⟩
  { w0 with heap := putC (putC (putC (putC (putC (putC (putC w0.heap 0 #[.iface 107 (.pointer (some ⟨low, 0, none⟩))]) 1 #[.iface 107 (.pointer (some ⟨low + 1, 0, none⟩))]) 2 (cells2 Rows.laid_unicode_utf8_first).toArray) 3 (cells2 Rows.laid_unicode_utf8_acceptRanges).toArray)
      4 (cells2 Rows.laid_internal_strconv_uint64pow10).toArray) 6 (cells2 Rows.laid_math_bits_deBruijn32tab).toArray) 7 (cells2 Rows.laid_math_bits_deBruijn64tab).toArray }
theorem laid_met (os : Os) (args : Array Value) : laidMet Tryd.prog laidL ((laidWorld os).forCall (fun _ _ => 0) ⟨#[], args, []⟩).memory :=
  laidMet_of_run' 8 (by kernel_rfl) (by kernel_rfl)
end Go.Proofs.YtbabdjhikamkoaaDoor

namespace Go.Proofs.YtbabdjhikamkoaaDoor
set_option linter.unusedSimpArgs false
set_option linter.unusedVariables false
open Go Go.Abs Go.ChangeShapes Go.WideShapes Go.ChangeAt Go.RowKit

set_option maxRecDepth 100000 in
theorem str_ok {W : World} {base : Nat} {v : Value} (h : Value.okWide Tryd.prog W .any base 9 v) : ∃ s, v = .string s ∧ s.size ≤ lim := by
  obtain ⟨s, rfl⟩ := okWide_string Tryd.underlying9 h
  refine ⟨s, rfl, ?_⟩
  unfold Value.okWide at h
  have hu := Tryd.underlying9
  unfold Cell.okWide Cell.ok at h
  generalize Tryd.prog.underlying 9 = d at h hu
  subst hu
  have h' : (s.size : Int) ≤ IntKind.i64.max := h
  have e : IntKind.i64.max = 9223372036854775807 := by decide
  rw [e] at h'
  show s.size ≤ 9223372036854775807
  omega

set_option maxRecDepth 100000 in
theorem int_ok {W : World} {base : Nat} {v : Value} (h : Value.okWide Tryd.prog W .any base 3 v) : ∃ n, v = .int .i64 n ∧ (-9223372036854775808 ≤ n ∧ n ≤ 9223372036854775807) := by
  obtain ⟨n, rfl⟩ := okWide_int Tryd.underlying3 h
  refine ⟨n, rfl, ?_⟩
  unfold Value.okWide at h
  have hu := Tryd.underlying3
  unfold Cell.okWide Cell.ok at h
  generalize Tryd.prog.underlying 3 = d at h hu
  subst hu
  have e1 : IntKind.i64.max = 9223372036854775807 := by decide
  have e2 : IntKind.i64.min = -9223372036854775808 := by decide
  have h' : IntKind.i64 = IntKind.i64 ∧ IntKind.i64.has n := h
  have h2 := h'.2
  unfold IntKind.has at h2
  rw [e1, e2] at h2
  simpa using h2
end Go.Proofs.YtbabdjhikamkoaaDoor
