/-
 Auxiliary facts. No statement of the program stands here.
-/
import Derived.Test.YtjkkgbdoeaihmaaGreatDoorUAQ37
import Derived.Test.YtjkkgbdoeaihmaaGreatDoorCards
import Derived.Test.YtjkkgbdoeaihmaaGreatDoorTie
import Derived.Deep.DeepHandedRow
import Derived.Stop.LaidErr
namespace Go.Proofs.YtjkkgbdoeaihmaaGreatDoor
set_option linter.unusedSimpArgs false
set_option linter.unusedVariables false
open Go Go.Abs Go.ChangeShapes Go.WideShapes Go.ChangeAt Go.RowKit
theorem own : ownKnob Tryz.prog.godebug = none := by kernel_rfl
theorem laidOut : laidOutB Tryz.prog = true := by kernel_rfl
abbrev laidL : List (String × DataW Unit) := [("math/bits.deBruijn32tab", Rows.laid_math_bits_deBruijn32tab), ("math/bits.deBruijn64tab", Rows.laid_math_bits_deBruijn64tab), ("internal/strconv.uint64pow10", Rows.laid_internal_strconv_uint64pow10), ("unicode/utf8.acceptRanges", Rows.laid_unicode_utf8_acceptRanges), ("strconv.ErrRange", Rows.laid_strconv_ErrRange), ("strconv.ErrSyntax", Rows.laid_strconv_ErrSyntax), ("unicode/utf8.first", Rows.laid_unicode_utf8_first)]
set_option maxRecDepth 100000 in
theorem maxLen_var {W : World} (h : W.ShapedOpen Tryz.prog) : ∃ m, W.var? Tryz.prog "internal/bytealg.MaxLen" = some #[.int .i64 m] := by
 obtain ⟨h1, hr1⟩ := h
 clear hr1
 obtain ⟨cs, hw, hsz, hok⟩ := h1 0 #[.int .i64 0] 3 (of_decide_eq_true (by kernel_rfl)) (by kernel_rfl)
 obtain ⟨ts, hts, hnn, hc⟩ := hok (by kernel_rfl)
 have e1 : cs.size = 1 := hsz
 obtain ⟨v, hv⟩ : ∃ v, cs = #[v] := by
  obtain ⟨l⟩ := cs
  cases l with
  | nil => cases e1
  | cons v r => cases r with
   | nil => exact ⟨v, rfl⟩
   | cons _ _ => simp at e1
 subst hv
 obtain ⟨u, hu, hcell⟩ := hc 0 v rfl
 have hts' : ts = [3] := Option.some.inj (hts.symm.trans (show Tryz.prog.cellTypes Tryz.prog.depth 3 = some [3] by kernel_rfl))
 subst hts'
 have hu3 : u = 3 := by simpa using hu.symm
 subst hu3
 unfold Cell.ok at hcell
 have hun := Tryz.underlying3
 generalize Tryz.prog.underlying 3 = d at hcell hun
 subst hun
 cases v <;> simp only at hcell
 case int kd nv =>
  obtain ⟨rfl, hh⟩ := hcell
  refine ⟨nv, ?_⟩
  unfold World.var?
  rw [show Tryz.prog.globalNamed "internal/bytealg.MaxLen" = some 0 by kernel_rfl]
  simp only [Option.bind_some, hw]
theorem star : "*errors.errorString" = "*" ++ "errors.errorString" := by decide
theorem errRow (u : TypeId) (h : Tryz.prog.typeName? 3 u = some "*errors.errorString") : u = 180 :=
 typeName_ptr_named (nm := "errors.errorString") (by rw [← star]; kernel_rfl) (by kernel_rfl) (by decide) u (by rw [← star]; exact h)
theorem globs {W : World} (h : laidMetH Tryz.prog laidL W) (hsh : W.ShapedOpen Tryz.prog) : ∃ q : Gl, ∀ (g : Nat) (cs : List T), Abs.look (G q) g = some cs → Old W g ∧ RepG (Old W) W cs g := by
 have h0 : laidMet Tryz.prog laidL W := h
 have t : Lib.TabIs Tryz.prog W "internal/strconv.uint64pow10" .u64 pow10 := Lib.tabIs_of_head (by kernel_rfl) (show (Tryz.prog.globals[5]?).map (·.type) = some 189 by kernel_rfl) Tryz.underlying189 Tryz.underlying108 (by kernel_rfl) (by kernel_rfl) h0.tail.tail
 obtain ⟨m, hm⟩ := maxLen_var hsh
 obtain ⟨a1, s1, v1, _⟩ := laid_sentinel (g := 2) (ti := 93) (tp := 180) (te := 182) (ts := 9) h0.tail.tail.tail.tail (by kernel_rfl) (by kernel_rfl) Tryz.underlying93 errRow Tryz.underlying180 Tryz.underlying182 rfl rfl Tryz.underlying9 (by kernel_rfl) (by kernel_rfl)
 obtain ⟨a0, s0, v0, _⟩ := laid_sentinel (g := 1) (ti := 93) (tp := 180) (te := 182) (ts := 9) h0.tail.tail.tail.tail.tail (by kernel_rfl) (by kernel_rfl) Tryz.underlying93 errRow Tryz.underlying180 Tryz.underlying182 rfl rfl Tryz.underlying9 (by kernel_rfl) (by kernel_rfl)
 refine ⟨⟨m, 180, .pointer (some a0), 180, .pointer (some a1)⟩, fun g cs hl => ?_⟩
 simp only [G, Abs.look] at hl
 split at hl
 ·rename_i e; subst e; injection hl with hl; subst hl
  exact glob_var (vs := [.iface 180 (.pointer (some a0))]) v0 (by kernel_rfl) (by intro x hx; simp at hx; subst hx; rfl)
 ·split at hl
  ·rename_i e; subst e; injection hl with hl; subst hl
   exact glob_var (vs := [.iface 180 (.pointer (some a1))]) v1 (by kernel_rfl) (by intro x hx; simp at hx; subst hx; rfl)
  ·split at hl
   ·rename_i e; subst e; injection hl with hl; subst hl
    exact glob_tab t (by kernel_rfl)
   ·split at hl
    ·rename_i e; subst e; injection hl with hl; subst hl
     exact glob_var (vs := [.int .i64 m]) hm (by kernel_rfl) (by intro x hx; simp at hx; subst hx; rfl)
    ·cases hl
def litV : Lit → Value
 | .int k n => .int k n
 | _ => undef
def cells1 : DataW Unit → List Value
 | .lit x => [litV x]
 | .agg l => l.flatMap fun | .lit x => [litV x] | _ => []
 | _ => []
def cells2 : DataW Unit → List Value
 | .agg l => l.flatMap cells1
 | _ => []
noncomputable def low : Nat := (World.holding Tryz.prog default ⟨#[], #[], []⟩).heap.size
def putC (h : Array Obj) (g : Nat) (cs : Array Value) : Array Obj := h.modify g fun
 | .cells _ t frozen => .cells cs t frozen
 | o => o
noncomputable def laidWorld (os : Os) : World :=
 let w0 := World.holding Tryz.prog os ⟨#[.cells #[.string ⟨#[105, 110, 118, 97, 108, 105, 100, 32, 115, 121, 110, 116, 97, 120]⟩] 182, .cells #[.string ⟨#[118, 97, 108, 117, 101, 32, 111, 117, 116, 32, 111, 102, 32, 114, 97, 110, 103, 101]⟩] 182], #[], []⟩
 { w0 with heap := putC (putC (putC (putC (putC (putC (putC w0.heap 1 #[.iface 180 (.pointer (some ⟨low, 0, none⟩))]) 2 #[.iface 180 (.pointer (some ⟨low + 1, 0, none⟩))]) 3 (cells2 Rows.laid_unicode_utf8_first).toArray) 4 (cells2 Rows.laid_unicode_utf8_acceptRanges).toArray)
   5 (cells2 Rows.laid_internal_strconv_uint64pow10).toArray) 6 (cells2 Rows.laid_math_bits_deBruijn32tab).toArray) 7 (cells2 Rows.laid_math_bits_deBruijn64tab).toArray }
theorem laid_met (os : Os) (args : Array Value) : laidMet Tryz.prog laidL ((laidWorld os).forCall (fun _ _ => 0) ⟨#[], args, []⟩).memory :=
 laidMet_of_run' 8 (by kernel_rfl) (by kernel_rfl)
section
variable {H : Type} {enc : TypeId × Value → H} {P : Program} {W : World} {spare : Nat → Bool} {held : Bool}
theorem addr_add (a : Addr) (x y : Nat) : a.add (x + y) = (a.add x).add y := by
 unfold Addr.add
 by_cases hx : x = 0 <;> by_cases hy : y = 0 <;> simp [hx, hy, Nat.add_assoc]
def RdL (W : World) (ts : List T) (cs : List Value) : Prop := RepL (Old W) W ts cs ∧ ∀ x ∈ cs, x.oneCell' = true
theorem RdL.at' {ts : List T} {cs : List Value} (h : RdL W ts cs) {j : Nat} {c : T} (hj : ts[j]? = some c) : ∃ x, cs[j]? = some x ∧ x.oneCell' = true ∧ RepT (Old W) W c x := by
 obtain ⟨x, hx, hr⟩ := h.1.at_ j hj
 exact ⟨x, hx, h.2 x (List.mem_of_getElem? hx), hr⟩
theorem repL_append {I : Nat → Prop} {w : World} : ∀ {ts ts' : List T} {us us' : List Value}, RepL I w ts us → RepL I w ts' us' → RepL I w (ts ++ ts') (us ++ us')
 | [], ts', us, us', h, h' => by simp only [RepL] at h; subst h; simpa using h'
 | t :: ts, ts', us, us', h, h' => by
  simp only [RepL] at h
  obtain ⟨x, xs, rfl, hx, hxs⟩ := h
  simp only [List.cons_append, RepL]
  exact ⟨x, xs ++ us', rfl, hx, repL_append hxs h'⟩
theorem RdL.append {ts ts' : List T} {cs cs' : List Value} (h : RdL W ts cs) (h' : RdL W ts' cs') : RdL W (ts ++ ts') (cs ++ cs') :=
 ⟨repL_append h.1 h'.1, fun x hx => by rcases List.mem_append.1 hx with hx | hx; exact h.2 x hx; exact h'.2 x hx⟩
theorem rd_int {t : TypeId} {k : IntKind} (ht : P.underlying t = some (.int k)) {fuel : Nat} {cs : List Value} {x : DataW H × List MemPlace} (h : DataW.trod enc P W 0 spare held fuel t cs = some x) : ∃ n, RdL W [.v (.int k n)] cs := by
 obtain ⟨n, rfl, _, _⟩ := DataW.trod_int ht h
 exact ⟨n, by simp only [RepL, RepT]; exact ⟨_, _, rfl, rfl, rfl⟩, by simp [Value.oneCell']⟩
theorem rd_str {t : TypeId} (ht : P.underlying t = some .string) {fuel : Nat} {cs : List Value} {x : DataW H × List MemPlace} (h : DataW.trod enc P W 0 spare held fuel t cs = some x) : ∃ s : ByteArray, RdL W [sv s] cs := by
 obtain ⟨s, rfl, _, _⟩ := DataW.trod_string ht h
 exact ⟨s, by simp only [RepL, RepT]; exact ⟨_, _, rfl, rfl, rfl⟩, by simp [Value.oneCell']⟩
theorem rd_slice {α : Type} {e : Enc α} {t el : TypeId} {R : α → Prop} (ht : P.underlying t = some (.slice el)) (hc : P.cellsOf el = e.z) {fuel : Nat} {cs : List Value} {x : DataW H × List MemPlace} (h : DataW.trod enc P W 0 spare held fuel t cs = some x)
  (hr : ∀ n, n < fuel → ∀ cs x, DataW.trod enc P W 0 spare held n el cs = some x → ∃ a, RdL W (e.enc a) cs ∧ R a) :
  ∃ x l, RdL W [x] cs ∧ IsS e x l ∧ ∀ a ∈ l, R a := by
 rcases DataW.trod_slice ht h with ⟨rfl, e0⟩ | ⟨a, len, cap, elems, rest, n, hn, rfl, e0, _, hl, hm, hlen, hel, _, _⟩
 ·exact ⟨nilS, [], ⟨by simp only [RepL, RepT]; exact ⟨_, _, rfl, rfl, rfl⟩, by simp [Value.oneCell']⟩, IsS.nil, fun a ha => by cases ha⟩
 ·have each : ∀ i, i < len → ∃ (cs : List Value) (a' : α), W.cells? 0 (a.add (i * e.z)) e.z = some cs ∧ RdL W (e.enc a') cs ∧ R a' := by
   intro i hi
   obtain ⟨y, hy⟩ : ∃ y, elems[i]? = some y := ⟨_, List.getElem?_eq_getElem (by omega)⟩
   have := hel i hi
   rw [hy, hc, Option.bind_eq_some_iff] at this
   obtain ⟨cs, h1, h2⟩ := this
   obtain ⟨a', h3, h4⟩ := hr n (by omega) cs y h2
   exact ⟨cs, a', h1, h3, h4⟩
  have build : ∀ k, k ≤ len → ∃ l : List α, l.length = k ∧ ∀ (i : Nat) a', l[i]? = some a' → ∃ (cs : List Value), W.cells? 0 (a.add (i * e.z)) e.z = some cs ∧ RdL W (e.enc a') cs ∧ R a' := by
   intro k
   induction k with
   | zero => exact fun _ => ⟨[], rfl, fun i a' h => by simp at h⟩
   | succ k ih =>
    intro hk
    obtain ⟨l, h1, h2⟩ := ih (by omega)
    obtain ⟨cs, a', h4, h5, h6⟩ := each k (by omega)
    refine ⟨l ++ [a'], by simp [h1], fun i b hb => ?_⟩
    rw [List.getElem?_append] at hb
    split at hb
    ·exact h2 i b hb
    ·have : i - l.length = 0 := by
      have := (List.getElem?_eq_some_iff.1 hb).1
      simp at this
      omega
     have hi : i = k := by omega
     rw [this] at hb
     simp at hb
     subst hb
     rw [hi]
     exact ⟨cs, h4, h5, h6⟩
  obtain ⟨l, hll, hat⟩ := build len (Nat.le_refl _)
  refine ⟨slT e l, l, ⟨?_, by simp [Value.oneCell']⟩, IsS.mk l, fun a' ha => ?_⟩
  ·simp only [RepL]
   refine ⟨_, _, rfl, ?_, rfl⟩
   simp only [slT, RepT]
   refine ⟨a, cap, by rw [hll], by omega, ?_⟩
   by_cases h0 : len = 0
   ·left
    have : l = [] := List.length_eq_zero_iff.1 (by omega)
    rw [this]
    simp
   ·right
    obtain ⟨a0, ha0⟩ : ∃ a0, l[0]? = some a0 := ⟨_, List.getElem?_eq_getElem (by omega)⟩
    have hzp := e.pos
    have cellAt : ∀ (i j : Nat) (a' : α) (c : T), l[i]? = some a' → (e.enc a')[j]? = some c → ∃ x, W.cell? (a.add (i * e.z + j)) = some x ∧ x.oneCell' = true ∧ RepT (Old W) W c x := by
     intro i j a' c hi hj
     obtain ⟨cs, h2, h3, _⟩ := hat i a' hi
     obtain ⟨x, hx, h4, h5⟩ := h3.at' hj
     have hjl : j < e.z := by rw [← e.len a']; exact (List.getElem?_eq_some_iff.1 hj).1
     obtain ⟨_, _, h6⟩ := World.cells?_some h2
     have := h6 j hjl
     refine ⟨x, ?_, h4, h5⟩
     rw [← hx, ← this]
     congr 1
     exact addr_add a _ _
    obtain ⟨c0, hc0⟩ : ∃ c0, (e.enc a0)[0]? = some c0 := ⟨_, List.getElem?_eq_getElem (by rw [e.len]; exact hzp)⟩
    obtain ⟨x0, hx0, _, _⟩ := cellAt 0 0 a0 c0 ha0 hc0
    have hs : a.spot = none := by simpa [Addr.add] using World.cell?_spot hx0
    refine ⟨hs, by simpa [Addr.add, Old] using cell_lt hx0, RepC.mk fun k c hk => ?_⟩
    have hkl : k < (l.flatMap e.enc).length := (List.getElem?_eq_some_iff.1 hk).1
    rw [length_flat] at hkl
    have hi : k / e.z < l.length := Nat.div_lt_of_lt_mul (by rw [Nat.mul_comm]; exact hkl)
    obtain ⟨a', ha'⟩ : ∃ a', l[k / e.z]? = some a' := ⟨_, List.getElem?_eq_getElem hi⟩
    have hkz : k / e.z * e.z + k % e.z = k := by rw [Nat.mul_comm]; exact Nat.div_add_mod k e.z
    have hmod := Nat.mod_lt k hzp
    have hd := flat_drop e l (k / e.z) a' ha'
    have hj : (e.enc a')[k % e.z]? = some c := by
     have h7 : ((l.flatMap e.enc).drop (k / e.z * e.z))[k % e.z]? = some c := by rw [List.getElem?_drop, hkz]; exact hk
     rw [hd, List.getElem?_append_left (by rw [e.len]; exact hmod)] at h7
     exact h7
    obtain ⟨x, hx, h8, h9⟩ := cellAt (k / e.z) (k % e.z) a' c ha' hj
    rw [hkz] at hx
    obtain ⟨ab, ao, as'⟩ := a
    simp only at hs
    subst hs
    refine ⟨x, ?_, h8, h9⟩
    by_cases hk0 : k = 0
    ·subst hk0; simpa [Addr.add] using hx
    ·simpa [Addr.add, hk0] using hx
  ·obtain ⟨i, hi, e1⟩ := List.getElem_of_mem ha
   obtain ⟨cs, _, _, h4⟩ := hat i a' (by rw [List.getElem?_eq_getElem hi, e1])
   exact h4
end
def eQ : Enc {c : List T // c.length = 4} := ⟨4, (·.val), fun x => x.2, by omega, fun a b h => Subtype.ext h⟩
theorem isK_of {x : T} {l : List {c : List T // c.length = 4}} (h : IsS eQ x l) (hd : ∀ c ∈ l, ∃ d, Abs.IsD d c.val) : ∃ ds, IsK x ds := by
 have key : ∀ l : List {c : List T // c.length = 4}, (∀ c ∈ l, ∃ d, Abs.IsD d c.val) → ∃ ds : List Ds, ds.length = l.length ∧ Abs.IsDs ds (l.flatMap eQ.enc) := by
  intro l
  induction l with
  | nil => exact fun _ => ⟨[], rfl, by simp only [Abs.IsDs]; rfl⟩
  | cons c r ih =>
   intro h
   obtain ⟨d, hd⟩ := h c (by simp)
   obtain ⟨ds, h1, h2⟩ := ih fun c hc => h c (by simp [hc])
   refine ⟨d :: ds, by simp [h1], ?_⟩
   rw [List.flatMap_cons]
   simp only [Abs.IsDs]
   exact ⟨_, _, rfl, hd, h2⟩
 rcases h with ⟨rfl, rfl⟩ | rfl
 ·exact ⟨[], .inl ⟨rfl, rfl⟩⟩
 ·obtain ⟨ds, h1, h2⟩ := key l hd
  refine ⟨ds, .inr ⟨l.flatMap eQ.enc, ?_, h2⟩⟩
  rw [slT, h1]
section
variable {H : Type} {enc : TypeId × Value → H} {W : World} {spare : Nat → Bool} {held : Bool}
set_option maxRecDepth 100000 in
theorem rd_desc : ∀ (fuel : Nat) (cs : List Value) (x : DataW H × List MemPlace), DataW.trod enc Tryz.prog W 0 spare held fuel 25 cs = some x → ∃ (c : List T) (d : Ds), RdL W c cs ∧ Abs.IsD d c := by
 intro fuel
 induction fuel using Nat.strongRecOn with
 | _ fuel ih =>
  intro cs x h
  obtain ⟨xs, n, hn, e, hl, hlen, hf⟩ := DataW.trod_struct Tryz.underlying25 h
  rw [show Tryz.prog.cellsOf 25 = 4 by kernel_rfl] at hl
  match xs, hlen, cs, hl with
  | [y0, y1, y2, y3], _, [v0, v1, v2, v3], _ =>
   have g0 : DataW.trod enc Tryz.prog W 0 spare held n 3 (([v0, v1, v2, v3].drop 0).take (Tryz.prog.cellsOf 3)) = some y0 := hf 0 _ rfl
   have g1 : DataW.trod enc Tryz.prog W 0 spare held n 9 (([v0, v1, v2, v3].drop 1).take (Tryz.prog.cellsOf 9)) = some y1 := hf 1 _ rfl
   have g2 : DataW.trod enc Tryz.prog W 0 spare held n 22 (([v0, v1, v2, v3].drop 2).take (Tryz.prog.cellsOf 22)) = some y2 := hf 2 _ rfl
   have g3 : DataW.trod enc Tryz.prog W 0 spare held n 23 (([v0, v1, v2, v3].drop 3).take (Tryz.prog.cellsOf 23)) = some y3 := hf 3 _ rfl
   rw [show Tryz.prog.cellsOf 3 = 1 by kernel_rfl] at g0
   rw [show Tryz.prog.cellsOf 9 = 1 by kernel_rfl] at g1
   rw [show Tryz.prog.cellsOf 22 = 1 by kernel_rfl] at g2
   rw [show Tryz.prog.cellsOf 23 = 1 by kernel_rfl] at g3
   obtain ⟨op, a0⟩ := rd_int (k := .i64) Tryz.underlying3 (cs := [v0]) g0
   obtain ⟨name, a1⟩ := rd_str Tryz.underlying9 (cs := [v1]) g1
   obtain ⟨tp, path, a2, b2, _⟩ := rd_slice (e := eStr) (R := fun _ => True) Tryz.underlying22 (by kernel_rfl) (cs := [v2]) g2 (fun m _ cs x h => by
    obtain ⟨s, hs⟩ := rd_str Tryz.underlying9 h
    exact ⟨s, hs, trivial⟩)
   obtain ⟨tk, l, a3, b3, c3⟩ := rd_slice (e := eQ) (R := fun c => ∃ d, Abs.IsD d c.val) Tryz.underlying23 (by kernel_rfl) (cs := [v3]) g3 (fun m hm cs x h => by
    obtain ⟨c, d, h1, h2⟩ := ih m (by omega) cs x h
    exact ⟨⟨c, h2.len⟩, h1, d, h2⟩)
   obtain ⟨kids, hk⟩ := isK_of b3 c3
   refine ⟨[iv op, sv name, tp, tk], .mk op name path kids, ?_, ?_⟩
   ·exact (a0.append (a1.append (a2.append a3)))
   ·rw [Abs.IsD]
    exact ⟨_, _, rfl, b2, hk⟩
theorem read_desc {v : Value} {d : DataW H} {p : List MemPlace} (h : DataW.Trod enc Tryz.prog W 0 spare held 25 v d p) {us : Array Value} (hv : v = .agg us) : ∃ (c : List T) (k : Ds), Abs.IsD k c ∧ RepT (Old W) W (.ag c) v := by
 obtain ⟨fuel, hf⟩ := h
 subst hv
 obtain ⟨c, k, hr, hd⟩ := rd_desc fuel _ (d, p) hf
 refine ⟨c, k, hd, ?_⟩
 simp only [RepT]
 refine ⟨us, rfl, fun y hy => hr.2 y (by simpa [Value.cells] using hy), ?_⟩
 have := hr.1
 simpa [Value.cells] using this
end
open Go Go.Abs
variable {q : Gl}
theorem light_small {most : Nat} (hm : most ≤ 400) {d : Ds} (h : lightB most d = true) : Small d ∧ nodesD d ≤ most ∧ d.depth ≤ 80 := by
 have h := of_decide_eq_true h
 obtain ⟨h1, h2, h3⟩ := weight_light most hm d 1 h
 exact ⟨h1, by omega, by omega⟩
theorem Small.fine : ∀ {d : Ds}, Small d → Fine d := fun h => by
 induction h with
 | mk op name path kids h1 h2 h3 h4 h5 ih => exact .mk op name path kids (by omega) (by omega) ih
theorem pri_cases (d : Ds) : (checkE d 1 = 0 ∧ (wrD d).length ≤ 65536 ∧ priT d = .tu [sv (bs (wrD d)), iv 0]) ∨ ∃ e : Int, e ≠ 0 ∧ priT d = .tu [sv ⟨#[]⟩, iv e] := by
 unfold priT
 by_cases h : checkE d 1 = 0
 ·rw [if_neg (by simpa using h)]
  by_cases hl : 65536 < (wrD d).length
  ·rw [if_pos hl]; exact .inr ⟨7, by decide, rfl⟩
  ·rw [if_neg hl]; exact .inl ⟨h, by omega, rfl⟩
 ·rw [if_pos h]; exact .inr ⟨_, h, rfl⟩
theorem checks_law {c : List T} {d : Ds} (hd : Abs.IsD d c) : CallT Tryz.prog (G q) 3 [.ag c] (· = bv true) := by
 have C : Ctx Tryz.prog (G q) (orc [(13, gEx), (12, gLight), (14, gCheck), (15, gCheck)]) := (TblOK.cons hEx (.cons hLight (.cons hDCheck (.cons hRCheck .nil)))).ctx mixed
 have hl : gLight [.ag c, iv 400] = some (bv (lightB 400 d)) := gLight_eq (most := 400) hd (by omega)
 have hck := fun hs => gCheck_eq hd hs
 obtain ⟨op, name, path, kids⟩ := d
 obtain ⟨tp, tk, rfl, hp, hk⟩ := hd.parts
 refine k_w19_DescChecks.call rfl ?_
 cases hb : lightB 400 (.mk op name path kids) with
 | false =>
  rw [hb] at hl
  refine mc_runs C ?_
  simp -implicitDefEqProofs [M_w19_DescChecks, box_d, dl4, hl, ge0]
 | true =>
  rw [hb] at hl
  have h2 := hck (light_small (by omega) hb).1.sized
  refine mc_runs C ?_
  simp -implicitDefEqProofs [M_w19_DescChecks, box_d, dl4, hl, ge0, h2]
theorem prints_law {c : List T} {d : Ds} (hd : Abs.IsD d c) : CallT Tryz.prog (G q) 6 [.ag c] (· = bv true) := by
 have C : Ctx Tryz.prog (G q) (orc [(13, gEx), (12, gLight), (22, gPrint), (23, gPrint)]) := (TblOK.cons hEx (.cons hLight (.cons hPrint (.cons hRPrint .nil)))).ctx mixed
 have hl : gLight [.ag c, iv 400] = some (bv (lightB 400 d)) := gLight_eq (most := 400) hd (by omega)
 have hpr := fun hs hw => gPrint_eq hd hs hw
 have hsm := fun h => light_small (most := 400) (d := d) (by omega) h
 have hpc : ∃ x y, priT d = .tu [sv x, iv y] := by
  rcases pri_cases d with ⟨_, _, h⟩ | ⟨e, _, h⟩
  ·exact ⟨_, _, h⟩
  ·exact ⟨_, _, h⟩
 obtain ⟨x, y, hxy⟩ := hpc
 rw [hxy] at hpr
 obtain ⟨op, name, path, kids⟩ := d
 obtain ⟨tp, tk, rfl, hp, hk⟩ := hd.parts
 refine k_w19_DescPrints.call rfl ?_
 cases hb : lightB 400 (.mk op name path kids) with
 | false =>
  rw [hb] at hl
  refine mc_runs C ?_
  simp -implicitDefEqProofs [M_w19_DescPrints, box_d, dl4, hl, ge0]
 | true =>
  rw [hb] at hl
  obtain ⟨h1, h2, _⟩ := hsm hb
  have h3 := hpr h1.sized fun h => h1.wr (by omega) h
  refine mc_runs C ?_
  simp -implicitDefEqProofs [M_w19_DescPrints, box_d, dl4, hl, ge0, h3]
theorem back_law {c : List T} {d : Ds} (hd : Abs.IsD d c) : CallT Tryz.prog (G q) 7 [.ag c] (· = bv true) := by
 have C : Ctx Tryz.prog (G q) (orc [(13, gEx), (12, gLight), (22, gPrint), (20, gParse), (19, gSd 80), (14, gCheck)]) :=
  (TblOK.cons hEx (.cons hLight (.cons hPrint (.cons hParse (.cons (hSd 80) (.cons hDCheck .nil)))))).ctx mixed
 have hl : gLight [.ag c, iv 400] = some (bv (lightB 400 d)) := gLight_eq (most := 400) hd (by omega)
 have hpr := fun hs hw => gPrint_eq hd hs hw
 have hck := fun hs => gCheck_eq hd hs
 have hsm := fun h => light_small (most := 400) (d := d) (by omega) h
 have hpc := pri_cases d
 have hsd := fun hf hh => gSd_eq (m := 80) (IsD.enc d) hd hf hh
 have hpa : checkE d 1 = 0 → (wrD d).length ≤ 65536 → gParse [sv (bs (wrD d))] = some (.tu [dT d, iv 0]) := fun h1 h2 => by
  rw [gParse_eq (by show (wrD d).length ≤ 1000000; omega)]
  show some (parT (parS (wrD d))) = _
  rw [parse_wr h1 h2]
  rfl
 obtain ⟨op, name, path, kids⟩ := d
 obtain ⟨tp, tk, rfl, hp, hk⟩ := hd.parts
 refine k_w19_DescBack.call rfl ?_
 cases hb : lightB 400 (.mk op name path kids) with
 | false =>
  rw [hb] at hl
  refine mc_runs C ?_
  simp -implicitDefEqProofs [M_w19_DescBack, box_d, dl4, hl, ge0]
 | true =>
  rw [hb] at hl
  obtain ⟨h1, h2, h3⟩ := hsm hb
  have h4 := hpr h1.sized fun h => h1.wr (by omega) h
  have h5 := hck h1.sized
  rcases hpc with ⟨c0, cl, e⟩ | ⟨e0, he0, e⟩
  ·rw [e] at h4
   rw [c0] at h5
   have h6 := hpa c0 cl
   have h7 := hsd h1.fine h3
   rw [dT] at h6
   rw [encD] at h6 h7
   generalize bs (wrD (.mk op name path kids)) = w at h4 h6
   refine mc_runs C ?_
   simp -implicitDefEqProofs [M_w19_DescBack, box_d, dl4, hl, ge0, h4, h5, h6, h7, sk1, dk1, dm4]
  ·rw [e] at h4
   have hb0 : (e0 != 0) = true := by simpa using he0
   refine mc_runs C ?_
   simp -implicitDefEqProofs [M_w19_DescBack, box_d, dl4, hl, ge0, h4, hb0, he0]
theorem names_law {c : List T} {d : Ds} (hd : Abs.IsD d c) : CallT Tryz.prog (G q) 9 [.ag c] (· = bv true) := by
 have C : Ctx Tryz.prog (G q) (orc [(13, gEx), (12, gLight), (15, gCheck), (24, gNames), (25, gNames), (26, gSame)]) :=
  (TblOK.cons hEx (.cons hLight (.cons hRCheck (.cons hNames (.cons hRNames (.cons hSame .nil)))))).ctx mixed
 have hl : gLight [.ag c, iv 400] = some (bv (lightB 400 d)) := gLight_eq (most := 400) hd (by omega)
 have hck := fun hs => gCheck_eq hd hs
 have hnm := fun hs hn => gNames_eq hd hs hn
 have hsm := fun h => light_small (most := 400) (d := d) (by omega) h
 have n1 := nmD_len 1 d []
 have n2 := nmD_len 2 d []
 unfold namT at hnm
 obtain ⟨A, hA⟩ : ∃ A, A = nmD 1 d [] := ⟨_, rfl⟩
 obtain ⟨B, hB⟩ : ∃ B, B = nmD 2 d [] := ⟨_, rfl⟩
 rw [← hA, ← hB] at hnm
 rw [← hA] at n1
 rw [← hB] at n2
 clear hA hB
 obtain ⟨op, name, path, kids⟩ := d
 obtain ⟨tp, tk, rfl, hp, hk⟩ := hd.parts
 refine k_w19_DescNames.call rfl ?_
 cases hb : lightB 400 (.mk op name path kids) with
 | false =>
  rw [hb] at hl
  refine mc_runs C ?_
  simp -implicitDefEqProofs [M_w19_DescNames, box_d, dl4, hl, ge0]
 | true =>
  rw [hb] at hl
  obtain ⟨h1, h2, h3⟩ := hsm hb
  have h5 := hck h1.sized
  have h6 := hnm h1.sized (by omega)
  by_cases h0 : checkE (.mk op name path kids) 1 = 0
  ·rw [h0] at h5
   have s1 := gSame_eq (IsS.tree eStr A) (IsS.tree eStr A) (by simp at n1; omega)
   have s2 := gSame_eq (IsS.tree eStr B) (IsS.tree eStr B) (by simp at n2; omega)
   generalize treeS eStr A = tA at h6 s1
   generalize treeS eStr B = tB at h6 s2
   refine mc_runs C ?_
   simp -implicitDefEqProofs [M_w19_DescNames, box_d, dl4, hl, ge0, h5, h6, s1, s2]
  ·obtain ⟨e0, he0⟩ : ∃ e0, e0 = checkE (.mk op name path kids) 1 := ⟨_, rfl⟩
   rw [← he0] at h5 h0
   have hb0 : (e0 != 0) = true := by simpa using h0
   refine mc_runs C ?_
   simp -implicitDefEqProofs [M_w19_DescNames, box_d, dl4, hl, ge0, h5, hb0, h0]
section
variable (d d2 : Ds) (R : Heap)
abbrev dC (d : Ds) : Row := .cells 25 ((encD d).map .t)
theorem lc1 : loadM true 4 ((1, dC d) :: R) (.ptr 1 0) = some (.t (dT d)) := ld_d rfl
end
end Go.Proofs.YtjkkgbdoeaihmaaGreatDoor
namespace Go.Abs
set_option linter.unusedSimpArgs false
set_option linter.unusedVariables false
open Go
section
variable {Φ : Oracle} {κ j b : Nat} {pd : Pend} {gr : List GI} {kp : Bool} {ag : List Nat} {d : Option Nat} {k : MK} {xs : List Opd} {env : List (Nat × PV)} {H : Heap} {nx n : Nat} {K : AState → Prop}
theorem runsG_quiet_t {g : Nat} (hk : quietK k = true) (h : look env g = some (.t (.v (.bool true)))) : runsG Φ κ j b pd (.o ⟨d, k, xs, some (g, true)⟩ kp ag :: gr) ⟨env, H, nx, n⟩ K =
  ifSome (evalQ Φ H nx k (xs.map (·.ev env))) fun v => agains Φ pd H nx ag (runsG Φ κ (j + 1) b (keepG kp j ⟨d, k, xs, some (g, true)⟩ ⟨env, H, nx, n⟩ v pd) gr (AState.set ⟨env, H, nx, n⟩ d (v, H, nx)) K) := by
 simp only [runsG, valD, hk, if_true, valQ, Mini.wants, h, beq_self_eq_true, ifSome_map]
theorem runsG_heavy_t {g : Nat} (hk : quietK k = false) (h : look env g = some (.t (.v (.bool true)))) : runsG Φ κ j b pd (.o ⟨d, k, xs, some (g, true)⟩ kp ag :: gr) ⟨env, H, nx, n⟩ K =
  ifSome (evalK Φ H nx k (xs.map (·.ev env))) fun q => agains Φ pd q.2.1 q.2.2 ag (runsG Φ κ (j + 1) b (keepG kp j ⟨d, k, xs, some (g, true)⟩ ⟨env, H, nx, n⟩ q.1 pd) gr (AState.set ⟨env, H, nx, n⟩ d q) K) := by
 simp only [runsG, valD, hk, Bool.false_eq_true, if_false, Mini.wants, h, beq_self_eq_true]
end
end Go.Abs
namespace Go.Proofs.YtjkkgbdoeaihmaaGreatDoor
set_option linter.unusedSimpArgs false
set_option linter.unusedVariables false
open Go Go.Abs
variable {q : Gl}
def gPa : List T → Option T
 | [.ag [.v (.int .i64 op), .v (.string name), tp, tk]] => some (if op = 4 then tk else .sl 1 [iv op, sv name, tp, tk])
 | _ => none
theorem bsT (a b c d : T) (k : Nat) : bsliceM 25 4 [.int .i64 0, .string ⟨#[]⟩, .slice none 0 0, .slice none 0 0] 1 [(0, .t (.ag [a, b, c, d]))] k = some (.row k 0 1 4, .cells 25 [.t a, .t b, .t c, .t d]) := rfl
theorem hPa : GOK Tryz.prog (G q) 28 gPa := fun args r hr => by
 unfold gPa at hr
 split at hr
 ·rename_i op name tp tk
  injection hr with hr
  subst hr
  refine k_r19_Parts.call rfl ?_
  by_cases h : op = 4
  ·subst h
   refine mc_runs ctx00 ?_
   simp -implicitDefEqProofs [M_r19_Parts, box_d, dl0, dl3]
  ·have hb : (op == 4) = false := by simpa using h
   refine mc_runs ctx00 ?_
   simp -implicitDefEqProofs [M_r19_Parts, box_d, dl0, dl4, hb, h, bsT]
 ·cases hr
theorem gPa_eq {d : Ds} {c : List T} (hd : Abs.IsD d c) : ∃ t, gPa [.ag c] = some t ∧ IsK t (partsD d) := by
 obtain ⟨op, name, path, kids⟩ := d
 have hd' := hd
 obtain ⟨tp, tk, rfl, hp, hk⟩ := hd.parts
 refine ⟨_, rfl, ?_⟩
 by_cases h : op = 4
 ·subst h
  exact hk
 ·rw [if_neg h]
  have e : partsD (.mk op name path kids) = [.mk op name path kids] := if_neg h
  rw [e]
  exact .inr ⟨_, rfl, by simp only [Abs.IsDs]; exact ⟨_, [], by simp, hd', rfl⟩⟩
theorem isDs_append : ∀ {l m : List Ds} {c c' : List T}, Abs.IsDs l c → Abs.IsDs m c' → Abs.IsDs (l ++ m) (c ++ c')
 | [], m, c, c', h, h' => by simp only [Abs.IsDs] at h; subst h; simpa using h'
 | d :: l, m, c, c', h, h' => by
  simp only [Abs.IsDs] at h
  obtain ⟨c1, c2, rfl, h1, h2⟩ := h
  rw [List.cons_append, List.append_assoc]
  simp only [Abs.IsDs]
  exact ⟨c1, c2 ++ c', rfl, h1, isDs_append h2 h'⟩
theorem app_rows {H : Heap} {nx b n m : Nat} {cs : List PV} {cs2 : List T} (hb : Abs.look H b = some (.cells 25 cs)) (hc : cs.length = n * 4) (h2 : cs2.length = m * 4) (hs : n + m ≤ 1000000) :
  ∃ H', appM 25 4 72 H nx (.row b 0 n 4) (.t (.sl m cs2)) = some (.row nx 0 (n + m) 4, H', nx + 1) ∧ Abs.look H' nx = some (.cells 25 (cs ++ cs2.map .t)) ∧ ∀ k, k ≠ nx → k ≠ b → Abs.look H' k = Abs.look H k := by
 refine ⟨(nx, .cells 25 (cs ++ cs2.map .t)) :: rem H b, ?_, by rw [look_cons, if_pos rfl], fun k h1 h2 => by rw [look_cons, if_neg (Ne.symm h1), look_rem, if_neg h2]⟩
 simp only [appM, srcP, h2, if_true, hb]
 rw [if_pos ⟨trivial, trivial, trivial, hc, by omega, by omega⟩]
theorem wrL_join (sep : List UInt8) : ∀ (a b : List Ds), a ≠ [] → b ≠ [] → wrL sep sep (a ++ b) = wrL sep sep a ++ (sep ++ wrL sep sep b)
 | [], _, h, _ => absurd rfl h
 | [d], b, _, hb => by
  obtain ⟨x, r, rfl⟩ := List.exists_cons_of_ne_nil hb
  have e1 : wrL sep sep (d :: x :: r) = wrD d ++ (sepOf sep sep (x :: r) ++ wrL sep sep (x :: r)) := by rw [wrL]
  have e2 : wrL sep sep [d] = wrD d := by rw [wrL, wrL]; simp [sepOf]
  have e3 : sepOf sep sep (x :: r) = sep := by cases r <;> rfl
  show wrL sep sep (d :: x :: r) = _
  rw [e1, e2, e3]
 | d :: d2 :: a, b, _, hb => by
  have ih := wrL_join sep (d2 :: a) b (by simp) hb
  have e1 : wrL sep sep (d :: (d2 :: (a ++ b))) = wrD d ++ (sepOf sep sep (d2 :: (a ++ b)) ++ wrL sep sep (d2 :: (a ++ b))) := by rw [wrL]
  have e2 : wrL sep sep (d :: d2 :: a) = wrD d ++ (sepOf sep sep (d2 :: a) ++ wrL sep sep (d2 :: a)) := by rw [wrL]
  have e3 : sepOf sep sep (d2 :: (a ++ b)) = sep := by cases (a ++ b) <;> rfl
  have e4 : sepOf sep sep (d2 :: a) = sep := by cases a <;> rfl
  have ih : wrL sep sep (d2 :: (a ++ b)) = wrL sep sep (d2 :: a) ++ (sep ++ wrL sep sep b) := ih
  show wrL sep sep (d :: (d2 :: (a ++ b))) = _
  rw [e1, e2, e3, e4, ih]
  simp only [List.append_assoc]
theorem and_check {ps : List Ds} (h : ∀ k ∈ ps, checkE k 1 = 0 ∧ k.op ≠ 4) (h2 : 2 ≤ ps.length) (h256 : ps.length ≤ 256) : checkE (.mk 4 ⟨#[]⟩ [] ps) 1 = 0 ∧ wrD (.mk 4 ⟨#[]⟩ [] ps) = wrL [32, 38, 32] [32, 38, 32] ps := by
 refine ⟨?_, by rw [wrD]; simp⟩
 have hf : formE 4 ⟨#[]⟩ [] ps = 0 := by
  unfold formE formB
  rw [if_neg (by decide)]
  have hany : (ps.any fun k => decide (k.op = 4)) = false := by
   rw [List.any_eq_false]
   intro k hk hd
   exact (h k hk).2 (of_decide_eq_true hd)
  have hkb : kidsB 4 ps = true := by
   show (decide (2 ≤ ps.length) && !(ps.any fun k => decide (k.op = 4))) = true
   rw [hany, decide_eq_true h2]; rfl
  rw [hkb]; rfl
 rw [checkE, if_neg (by simp; omega), hf]
 simp only [ne_eq, not_true_eq_false, if_false, if_true]
 exact checkL_of fun k hk => (h k hk).1
theorem parts_len (d : Ds) : (partsD d).length ≤ nodesD d := by
 obtain ⟨op, name, path, kids⟩ := d
 have hl : ∀ l : List Ds, l.length ≤ nodesL l := by
  intro l
  induction l with
  | nil => simp
  | cons x r ih =>
   rw [nodesL, List.length_cons]
   have : 1 ≤ nodesD x := by cases x; rw [nodesD]; omega
   omega
 rw [nodesD]
 unfold partsD
 split
 ·have := hl kids
  show kids.length ≤ _
  omega
 ·simp
section
variable (H R : Heap) (a b c d e f g h : T) (x : Row)
theorem jl0 : loadM true 4 [(1, .cells 25 [.t a, .t b, .t c, .t d]), (0, .cells 25 [.t e, .t f, .t g, .t h])] (.ptr 0 0) = some (.t (.ag [e, f, g, h])) := rfl
theorem jl1 : loadM true 4 [(1, .cells 25 [.t a, .t b, .t c, .t d]), (0, x)] (.ptr 1 0) = some (.t (.ag [a, b, c, d])) := rfl
theorem box_t : cellsP (.t (.ag [a, b, c, d])) = some [.t a, .t b, .t c, .t d] := rfl
end
theorem joins_law {c c' : List T} {d d' : Ds} (hd : Abs.IsD d c) (hd' : Abs.IsD d' c') : CallT Tryz.prog (G q) 10 [.ag c, .ag c'] (· = bv true) := by
 have CE : Ctx Tryz.prog (G q) (orc [(13, gEx), (12, gLight), (22, gPrint), (20, gParse)]) := (TblOK.cons hEx (.cons hLight (.cons hPrint (.cons hParse .nil)))).ctx mixed
 have hl : gLight [.ag c, iv 100] = some (bv (lightB 100 d)) := gLight_eq (most := 100) hd (by omega)
 have hl' : gLight [.ag c', iv 100] = some (bv (lightB 100 d')) := gLight_eq (most := 100) hd' (by omega)
 have hpr := fun hs hw => gPrint_eq hd hs hw
 have hpr' := fun hs hw => gPrint_eq hd' hs hw
 have hsm := fun h => light_small (most := 100) (d := d) (by omega) h
 have hsm' := fun h => light_small (most := 100) (d := d') (by omega) h
 obtain ⟨tP, hP, kP⟩ := gPa_eq hd
 obtain ⟨tP', hP', kP'⟩ := gPa_eq hd'
 obtain ⟨xa, xb, xc, xd, rfl⟩ : ∃ ca cb cc cd, c = [ca, cb, cc, cd] := by
  cases d with
  | mk op name path ks =>
   obtain ⟨tp', tk', rfl, _, _⟩ := hd.parts
   exact ⟨_, _, _, _, rfl⟩
 obtain ⟨ya, yb, yc, yd, rfl⟩ : ∃ ca cb cc cd, c' = [ca, cb, cc, cd] := by
  cases d' with
  | mk op name path ks =>
   obtain ⟨tp', tk', rfl, _, _⟩ := hd'.parts
   exact ⟨_, _, _, _, rfl⟩
 refine k_w19_DescJoins.call rfl ?_
 unfold M_w19_DescJoins
 refine mc_seq_runs CE ?_
 simp -implicitDefEqProofs [box_t]
 cases hb : lightB 100 d with
 | false =>
  rw [hb] at hl
  refine mc_runs CE ?_
  simp -implicitDefEqProofs [jl0, jl1, hl, ge0]
 | true =>
 rw [hb] at hl
 cases hb' : lightB 100 d' with
 | false =>
  rw [hb'] at hl'
  refine mc_runs CE ?_
  simp -implicitDefEqProofs [jl0, jl1, hl, hl', ge0]
 | true =>
 rw [hb'] at hl'
 obtain ⟨h1, h2, h3⟩ := hsm hb
 obtain ⟨h1', h2', h3'⟩ := hsm' hb'
 have p1 := hpr h1.sized fun h => h1.wr (by omega) h
 have p2 := hpr' h1'.sized fun h => h1'.wr (by omega) h
 refine mc_seq_runs CE ?_
 simp -implicitDefEqProofs [jl0, jl1, hl, hl']
 rcases pri_cases d with ⟨ck, wl, e1⟩ | ⟨e0, he0, e1⟩
 rotate_left
 ·rw [e1] at p1
  have hb0 : (e0 != 0) = true := by simpa using he0
  rcases pri_cases d' with ⟨_, _, e2⟩ | ⟨e0', _, e2⟩
  ·rw [e2] at p2
   refine mc_runs CE ?_
   simp -implicitDefEqProofs [jl0, jl1, p1, p2, hb0, he0, ge0]
  ·rw [e2] at p2
   refine mc_runs CE ?_
   simp -implicitDefEqProofs [jl0, jl1, p1, p2, hb0, he0, ge0]
 rw [e1] at p1
 rcases pri_cases d' with ⟨ck', wl', e2⟩ | ⟨e0', he0', e2⟩
 rotate_left
 ·rw [e2] at p2
  have hb0 : (e0' != 0) = true := by simpa using he0'
  refine mc_runs CE ?_
  simp -implicitDefEqProofs [jl0, jl1, p1, p2, hb0, he0', ge0]
 rw [e2] at p2
 obtain ⟨w, hw⟩ : ∃ w, w = wrD d := ⟨_, rfl⟩
 obtain ⟨w', hw'⟩ : ∃ w, w = wrD d' := ⟨_, rfl⟩
 rw [← hw] at p1 wl
 rw [← hw'] at p2 wl'
 obtain ⟨n, hn⟩ : ∃ n, n = w.length + w'.length := ⟨_, rfl⟩
 have z1 : (bs w).size = w.length := rfl
 have z2 : (bs w').size = w'.length := rfl
 have eadd : IntKind.i64.wrap ((w.length : Int) + (w'.length : Int)) = (n : Int) := wrap_nat (by omega) (by omega)
 refine mc_seq_runs CE ?_
 simp -implicitDefEqProofs [jl0, p1]
 refine mc_seq_runs CE ?_
 simp -implicitDefEqProofs [jl1, p2]
 by_cases hlong : 60000 < n
 ·have hlong' : (60000 : Int) < (n : Int) := by omega
  refine mc_runs CE ?_
  simp -implicitDefEqProofs [z1, z2, eadd, hlong, hlong', ge0]
 have hlong' : ¬ (60000 : Int) < (n : Int) := by omega
 refine mc_seq_runs CE ?_
 simp -implicitDefEqProofs [z1, z2, eadd, hlong, hlong']
 -- both strings with & between
 obtain ⟨q1, q2, q3, _, _, q4⟩ := parts_ok ck
 obtain ⟨q1', q2', q3', _, _, q4'⟩ := parts_ok ck'
 have pl := parts_len d
 have pl' := parts_len d'
 obtain ⟨ps, hps⟩ : ∃ ps, ps = partsD d ++ partsD d' := ⟨_, rfl⟩
 have hpl : ps.length = (partsD d).length + (partsD d').length := by rw [hps, List.length_append]
 have hp1 : 1 ≤ (partsD d).length := List.length_pos_iff.2 q2
 have hp2 : 1 ≤ (partsD d').length := List.length_pos_iff.2 q2'
 have hall : ∀ k ∈ ps, checkE k 1 = 0 ∧ k.op ≠ 4 := fun k hk => by
  rw [hps] at hk
  rcases List.mem_append.1 hk with hk | hk
  ·exact q1 k hk
  ·exact q1' k hk
 obtain ⟨ckD, wrDD⟩ := and_check hall (by omega) (by omega)
 have hW : w ++ [32, 38, 32] ++ w' = wrD (.mk 4 ⟨#[]⟩ [] ps) := by
  rw [wrDD, hps, wrL_join _ _ _ q2 q2', ← q4, ← q4', hw, hw', List.append_assoc]
 have hpp := gParse_eq (s := bs (w ++ [32, 38, 32] ++ w')) (by show (w ++ [32, 38, 32] ++ w').length ≤ _; rw [List.length_append, List.length_append]; show _ + 3 + _ ≤ _; omega)
 rw [show (bs (w ++ [32, 38, 32] ++ w')).data.toList = w ++ [32, 38, 32] ++ w' from rfl] at hpp
 rw [show parS (w ++ [32, 38, 32] ++ w') = .ok (.mk 4 ⟨#[]⟩ [] ps) by
  rw [hW]
  refine parse_wr ckD ?_
  rw [← hW, List.length_append, List.length_append]
  show _ + 3 + _ ≤ _
  omega] at hpp
 have hpp : gParse [sv (bs (w ++ [32, 38, 32] ++ w'))] = some (.tu [.ag [iv 4, sv ⟨#[]⟩, nilS, treeS eD ps], iv 0]) := by
  rw [hpp, parT, dT, encD_eq]
  rfl
 have kD := IsK.tree ps
 generalize treeS eD ps = tk at hpp kD
 have a1 := sadd (a := w) (b := [32, 38, 32]) (by show _ + 3 ≤ _; omega)
 have a2 := sadd (a := w ++ [32, 38, 32]) (b := w') (by rw [List.length_append]; show _ + 3 + _ ≤ _; omega)
 have ea : (⟨#[32, 38, 32]⟩ : ByteArray) = bs [32, 38, 32] := rfl
 generalize bs (w ++ [32, 38, 32] ++ w') = ln at hpp a2
 generalize bs (w ++ [32, 38, 32]) = ln0 at a1 a2
 obtain ⟨H2, hH2⟩ : ∃ H2, H2 = [(2, .cells 25 [.t (iv 4), .t (sv ⟨#[]⟩), .t nilS, .t tk]), (1, .cells 25 [.t ya, .t yb, .t yc, .t yd]), (0, Row.cells 25 [.t xa, .t xb, .t xc, .t xd])] := ⟨_, rfl⟩
 have st2 : storeM 4 [(2, zD), (1, .cells 25 [.t ya, .t yb, .t yc, .t yd]), (0, .cells 25 [.t xa, .t xb, .t xc, .t xd])] (.ptr 2 0) (.t (.ag [iv 4, sv ⟨#[]⟩, nilS, tk])) = some H2 := by rw [hH2]; rfl
 refine mc_seq_runs CE ?_
 simp -implicitDefEqProofs [ea, a1, a2, hpp, st2]
 -- the last piece
 have r0 : Abs.look H2 0 = some (.cells 25 [.t xa, .t xb, .t xc, .t xd]) := by rw [hH2]; rfl
 have r1 : Abs.look H2 1 = some (.cells 25 [.t ya, .t yb, .t yc, .t yd]) := by rw [hH2]; rfl
 have r2 : Abs.look H2 2 = some (.cells 25 [.t (iv 4), .t (sv ⟨#[]⟩), .t nilS, .t tk]) := by rw [hH2]; rfl
 have f0 : loadM false 1 H2 (.ptr 2 0) = some (.t (iv 4)) := by simp only [loadM, r2]; rfl
 have f3 : ∀ H : Heap, Abs.look H 2 = Abs.look H2 2 → loadM false 1 H (.ptr 2 3) = some (.t tk) := fun H h => by simp only [loadM, h, r2]; rfl
 have g0 := ld_agg r0
 have g1 : ∀ H : Heap, Abs.look H 1 = Abs.look H2 1 → loadM true 4 H (.ptr 1 0) = some (.t (.ag [ya, yb, yc, yd])) := fun H h => ld_agg (h.trans r1)
 obtain ⟨cs1, rfl, i1⟩ : ∃ cs1, tP = .sl (partsD d).length cs1 ∧ Abs.IsDs (partsD d) cs1 := by
  rcases kP with ⟨_, h⟩ | ⟨c, h, i⟩
  ·exact absurd h q2
  ·exact ⟨c, h, i⟩
 obtain ⟨cs2, rfl, i2⟩ : ∃ cs2, tP' = .sl (partsD d').length cs2 ∧ Abs.IsDs (partsD d') cs2 := by
  rcases kP' with ⟨_, h⟩ | ⟨c, h, i⟩
  ·exact absurd h q2'
  ·exact ⟨c, h, i⟩
 have lc1 := IsDs.length i1
 have lc2 := IsDs.length i2
 generalize (partsD d).length = n1 at hP lc1 hpl hp1 q3 pl
 generalize (partsD d').length = n2 at hP' lc2 hpl hp2 q3' pl'
 obtain ⟨H3, hH3⟩ : ∃ H3, H3 = (3, Row.cells 25 []) :: H2 := ⟨_, rfl⟩
 have o3 : ∀ k, k ≠ 3 → Abs.look H3 k = Abs.look H2 k := fun k hk => by rw [hH3, look_cons, if_neg (Ne.symm hk)]
 obtain ⟨H4, ap1, l4, o4⟩ := app_rows (H := H3) (nx := 4) (b := 3) (n := 0) (m := n1) (cs := []) (cs2 := cs1) (by rw [hH3]; rfl) rfl lc1 (by omega)
 rw [Nat.zero_add] at ap1
 rw [List.nil_append] at l4
 obtain ⟨H5, ap2, l5, o5⟩ := app_rows (H := H4) (nx := 5) (b := 4) (n := n1) (m := n2) (cs2 := cs2) l4 (by rw [List.length_map]; exact lc1) lc2 (by omega)
 have e3 := f3 H2 rfl
 have e3' := f3 H4 ((o4 2 (by omega) (by omega)).trans (o3 2 (by omega)))
 have e3'' := f3 H5 ((o5 2 (by omega) (by omega)).trans ((o4 2 (by omega) (by omega)).trans (o3 2 (by omega))))
 have e1 := g1 H2 rfl
 have e1' := g1 H4 ((o4 1 (by omega) (by omega)).trans (o3 1 (by omega)))
 obtain ⟨m, hm⟩ : ∃ m, m = n1 + n2 := ⟨_, rfl⟩
 rw [← hm] at ap2
 have t5 : toT H5 (.row 5 0 m 4) = some (.sl m (cs1 ++ cs2), [5]) := by
  have hle : 0 + m * 4 ≤ (cs1.map PV.t ++ cs2.map PV.t).length := by rw [List.length_append, List.length_map, List.length_map]; omega
  have tkk : ((cs1.map PV.t ++ cs2.map PV.t).drop 0).take (m * 4) = (cs1 ++ cs2).map PV.t := by
   rw [List.drop_zero, List.map_append, List.take_of_length_le (by rw [List.length_append, List.length_map, List.length_map]; omega)]
  simp only [toT, l5, hle, if_true, tkk, allT_map_t, Option.map_some]
 have kS : IsK (.sl m (cs1 ++ cs2)) ps := by
  refine .inr ⟨cs1 ++ cs2, by rw [hm, ← hpl], ?_⟩
  rw [hps]
  exact isDs_append i1 i2
 have hsd := gSds_eq (m := depthL ps) kD kS (by omega) (fun k hk => (check_small k 1 (hall k hk).1).fine) (Nat.le_refl _)
 have tt5 : toTs H5 [.t tk, .row 5 0 m 4] = some ([tk, .sl m (cs1 ++ cs2)], [5]) := by
  simp only [toTs, t5]
  rfl
 have C : Ctx Tryz.prog (G q) (orc [(13, gEx), (28, gPa), (27, gSds (depthL ps))]) := (TblOK.cons hEx (.cons hPa (.cons (hSds (depthL ps)) .nil))).ctx mixed
 have bs0 : bsliceM 25 4 [.int .i64 0, .string ⟨#[]⟩, .slice none 0 0, .slice none 0 0] 0 [] 3 = some (.row 3 0 0 4, .cells 25 []) := rfl
 have to1 : ∀ (H : Heap) (x : T), toTs H [.t x] = some ([x], []) := fun _ _ => rfl
 have to0 : ∀ (H : Heap), toTs H [] = some ([], []) := fun _ => rfl
 refine mc_seq_runs C ?_
 simp -implicitDefEqProofs [runsG_quiet_t, runsG_heavy_t, f0, e3, g0, e1, hP, hP', bs0, ← hH3, ap1, e3', e1', ap2, e3'', -Abs.toTs, to1, to0, tt5, hsd, ge0]
 refine mc_runs C ?_
 simp -implicitDefEqProofs
end Go.Proofs.YtjkkgbdoeaihmaaGreatDoor
