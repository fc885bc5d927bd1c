/-
 Auxiliary facts. No statement of the program stands here.
-/
import Derived.Test.YtjkkgbdoeaihmaaGreatDoorUAQ34
import Derived.Test.YtjkkgbdoeaihmaaGreatDoorUAQ31
namespace Go.Proofs.YtjkkgbdoeaihmaaGreatDoor
set_option linter.unusedSimpArgs false
set_option linter.unusedVariables false
open Go Go.Abs Go.RowKit
variable {q : Gl}
def eB : Enc UInt8 := ⟨1, fun b => [.v (.int .u8 b.toNat)], fun _ => rfl, by omega, fun a b h => by
 injection h with h; injection h with h; injection h with _ h
 exact UInt8.toNat_inj.1 (by exact_mod_cast h)⟩
abbrev tyB : Nat := 64
abbrev tyU : Nat := 5
def bldR (p : PV) (g : Nat) (l : List UInt8) : Row := .cells tyB [p, rowP eB g l]
theorem flat_eB (l : List UInt8) : l.flatMap eB.enc = l.map fun b => T.v (.int .u8 b.toNat) := by
 induction l with
 | nil => rfl
 | cons x l ih => rw [List.flatMap_cons, ih]; rfl
def wsH (H : Heap) (b g nx : Nat) (l m : List UInt8) : Heap := (nx, rowOf eB tyU m) :: upd (if l.isEmpty then H else rem H g) b (bldR (.ptr b 0) nx m)
theorem str_cells (s : List UInt8) : Lib.strCells (bs s) = s.map fun b => Value.int .u8 b.toNat := by
 unfold Lib.strCells; simp [bs]
theorem bld_ws (b : Nat) (arr : Array Value) (p v : Value) (xs : List Value) (s : ByteArray) (w : World) (hp : p = .pointer none ∨ p = .pointer (some ⟨b, 0, none⟩))
  (hb : w.heap[b]? = some (.cells arr tyB (0, 0))) (ha0 : arr[0]? = some p) (ha1 : arr[1]? = some v)
  (hown0 : Buf tyU w v xs.length xs) (hne : v.ownBlock ≠ some b) (hlen : xs.length + s.size ≤ 140737488355328) :
  Calls Tryz.prog 64 #[.pointer (some ⟨b, 0, none⟩), .string s] w fun e w' => e = .returned (.tuple #[.int .i64 s.size, .nilIface]) ∧
   ∃ v', w'.heap[b]? = some (.cells ((arr.setIfInBounds 0 (.pointer (some ⟨b, 0, none⟩))).setIfInBounds 1 v') tyB (0, 0)) ∧ Buf tyU w' v' (xs.length + s.size) (xs ++ Lib.strCells s) ∧ v'.ownBlock ≠ some b ∧ Wrote w w' (some b) v.ownBlock v'.ownBlock :=
 bld_write (ρ := Tryz.lays156_ren) { Tryz.lays156 with } Tryz.Builder_Extra_156 lies_builder (by kernel_rfl) b arr p v xs s w hp hb ha0 ha1 hown0 hne hlen
abbrev byV (l : List UInt8) : List Value := l.map fun b => Value.int .u8 b.toNat
theorem buf_own {L : Abs.Loc} {w : World} {H : Heap} {g : Nat} {l : List UInt8} {v : Value} (hok : HeapOK Tryz.prog (G q) L H w) (hg : RowAt eB tyU H g l) (hv : RepV Tryz.prog L w (rowP eB g l) v) :
  Buf tyU w v l.length (byV l) ∧ (v.ownBlock = if l.isEmpty then none else some (L.μ g)) := by
 cases l with
 | nil =>
  simp only [rowP, RepV, RepT] at hv
  subst hv
  exact ⟨⟨rfl, .inl ⟨rfl, rfl⟩⟩, rfl⟩
 | cons x r =>
  rcases hg with hg | hg
  ·cases hg
  ·obtain ⟨arr, ha, hl, hc⟩ := hok.rep g _ hg
   simp only [rowP, RepV] at hv
   obtain ⟨_, _, c, rfl, hnc, hfit⟩ := hv
   have hf := hfit arr tyU (0, 0) ha
   have hz : eB.z = 1 := rfl
   rw [hz] at hf
   rw [flat_eB] at hl hc
   refine ⟨⟨by simp [byV], .inr ⟨L.μ g, c, arr, rfl, ha, hnc, by omega, ?_⟩⟩, rfl⟩
   apply List.ext_getElem?
   intro k
   rw [List.getElem?_take]
   by_cases hk : k < (x :: r).length
   ·rw [if_pos hk]
    obtain ⟨y, hy⟩ : ∃ y, (x :: r)[k]? = some y := ⟨_, List.getElem?_eq_getElem hk⟩
    obtain ⟨z, h1, _, h2⟩ := hc k (.t (.v (.int .u8 y.toNat))) (by simp only [List.getElem?_map, hy, Option.map_some])
    simp only [RepV, RepT] at h2
    subst h2
    simp only [byV, List.getElem?_map, hy, Option.map_some]
    simpa using h1
   ·rw [if_neg hk, List.getElem?_eq_none (by simpa [byV] using hk)]
theorem ws_look {H : Heap} {b g nx k : Nat} {l m : List UInt8} {r : Row} (h : Abs.look (wsH H b g nx l m) k = some r) :
  (k = nx ∧ r = rowOf eB tyU m) ∨ (k ≠ nx ∧ k = b ∧ r = bldR (.ptr b 0) nx m) ∨ (k ≠ nx ∧ k ≠ b ∧ (l = [] ∨ k ≠ g) ∧ Abs.look H k = some r) := by
 unfold wsH at h
 rw [look_cons] at h
 split at h
 ·rename_i e
  injection h with h
  exact .inl ⟨e.symm, h.symm⟩
 ·rename_i hn
  rw [look_upd] at h
  split at h
  ·rename_i e
   obtain ⟨_, _, rfl⟩ := map_opt h
   exact .inr (.inl ⟨fun e => hn e.symm, e, rfl⟩)
  ·rename_i hb
   refine .inr (.inr ⟨fun e => hn e.symm, hb, ?_⟩)
   cases l with
   | nil => exact ⟨.inl rfl, h⟩
   | cons x r =>
    simp only [List.isEmpty_cons, Bool.false_eq_true, if_false] at h
    rw [look_rem] at h
    split at h
    ·cases h
    ·exact ⟨.inr (by assumption), h⟩
theorem buf_ne {H : Heap} {b g : Nat} {p : PV} {l : List UInt8} (h : Abs.look H b = some (bldR p g l)) (hg : RowAt eB tyU H g l) (hl : l ≠ []) : g ≠ b := by
 rintro rfl
 rcases hg with hg | hg
 ·exact hl hg
 ·rw [hg] at h
  injection h with h
  injection h with h1 h2
  exact absurd h1 (by decide)
theorem ws_call {H : Heap} {nx b g : Nat} {p : PV} {l s : List UInt8} (h : Abs.look H b = some (bldR p g l)) (hp : p = .t (.v (.pointer none)) ∨ p = .ptr b 0) (hg : RowAt eB tyU H g l) (hs : s ≠ []) (hlen : l.length + s.length ≤ 140737488355328) :
  CallP Tryz.prog (G q) 64 [.ptr b 0, .t (sv (bs s))] H nx (.t (.tu [iv (s.length : Int), .v .nilIface])) (wsH H b g nx l (l ++ s)) (nx + 1) := by
 refine ⟨⟨_, (Tryz.f64.body).get!, Tryz.func64, by kernel_rfl, by kernel_rfl⟩, fun L w us hok hnx hargs => ?_⟩
 have hus : us = #[.pointer (some ⟨L.μ b, 0, none⟩), .string (bs s)] := by
  simp only [RepVL, RepV, RepT] at hargs
  obtain ⟨x, xs, e, ⟨_, rfl⟩, y, ys, rfl, rfl, rfl⟩ := hargs
  exact Array.ext' e
 subst hus
 obtain ⟨arr, hb, hsz, hc⟩ := hok.rep b _ h
 obtain ⟨x0, ha0, _, hx0⟩ := hc 0 p rfl
 obtain ⟨v, ha1, _, hv⟩ := hc 1 (rowP eB g l) rfl
 have hp' : x0 = .pointer none ∨ x0 = .pointer (some ⟨L.μ b, 0, none⟩) := by
  rcases hp with rfl | rfl
  ·simp only [RepV, RepT] at hx0; exact .inl hx0
  ·simp only [RepV] at hx0; exact .inr hx0.2
 obtain ⟨hbuf, hob⟩ := buf_own hok hg hv
 have hgl : l ≠ [] → Abs.look H g = some (rowOf eB tyU l) := fun hl => hg.resolve_left hl
 have hbn : b < nx := hnx ▸ hok.nx b _ h
 have hne : v.ownBlock ≠ some (L.μ b) := by
  rw [hob]
  cases l with
  | nil => simp
  | cons y r =>
   intro e
   injection e with e
   exact buf_ne h hg (by simp) (hok.inj _ _ _ _ (hgl (by simp)) h e)
 have hl1 : (byV l).length = l.length := List.length_map ..
 have hl2 : (bs s).size = s.length := rfl
 refine (bld_ws (L.μ b) arr x0 v (byV l) (bs s) w hp' hb ha0 ha1 (by rw [hl1]; exact hbuf) hne (by rw [hl1, hl2]; exact hlen)).mono ?_
 rintro e w' ⟨rfl, v', hb', hbuf', hne', hW⟩
 rw [hl1, hl2, str_cells] at hbuf'
 have hslen : 0 < s.length := List.length_pos_iff.2 hs
 obtain ⟨g', cap, cur, rfl, hg', hncap, hcap, htake⟩ : ∃ g' cap cur, v' = .slice (some ⟨g', 0, none⟩) (l.length + s.length) cap ∧ w'.heap[g']? = some (.cells cur tyU (0, 0)) ∧ l.length + s.length ≤ cap ∧ cap ≤ cur.size ∧ cur.toList.take (l.length + s.length) = byV l ++ byV s := by
  rcases hbuf'.2 with ⟨_, h0⟩ | h
  ·omega
  ·exact h
 have hmb : L.μ b < w.heap.size := (Array.getElem?_eq_some_iff.1 hb).1
 have hg'lt : g' < w'.heap.size := (Array.getElem?_eq_some_iff.1 hg').1
 have hg'b : g' ≠ L.μ b := fun e => hne' (by rw [e]; rfl)
 have hgn : (l ≠ [] ∧ g' = L.μ g) ∨ g' = w.heap.size := by
  rcases hW.fresh with h1 | h1
  ·left
   rw [hob] at h1
   cases l with
   | nil => cases h1
   | cons y r => injection h1 with h1; exact ⟨by simp, h1⟩
  ·right; injection h1
 have hkeep : ∀ k, k < w.heap.size → k ≠ L.μ b → (l = [] ∨ k ≠ L.μ g) → w'.heap[k]? = w.heap[k]? := fun k hk hkb hkg => hW.block k hk (fun e => hkb (by injection e)) (fun e => by
  rw [hob] at e
  cases l with
  | nil => cases e
  | cons y r =>
   injection e with e
   rcases hkg with h | h
   ·cases h
   ·exact h e)
 have hI : ∀ k, L.I k → k < w.heap.size ∧ k ≠ L.μ b ∧ (l = [] ∨ k ≠ L.μ g) := fun k hk => by
  refine ⟨hok.lt k hk, fun e => hok.apart b _ h (e ▸ hk), ?_⟩
  by_cases hl : l = []
  ·exact .inl hl
  ·exact .inr fun e => hok.apart g _ (hgl hl) (e ▸ hk)
 have hother : ∀ k r, Abs.look H k = some r → k ≠ b → (l = [] ∨ k ≠ g) → w'.heap[L.μ k]? = w.heap[L.μ k]? := fun k r hk hkb hkg => by
  refine hkeep _ (hok.rep k r hk).lt (fun e => hkb (hok.inj _ _ _ _ hk h e)) ?_
  rcases hkg with hl | hkg
  ·exact .inl hl
  ·by_cases hl : l = []
   ·exact .inl hl
   ·exact .inr fun e => hkg (hok.inj _ _ _ _ hk (hgl hl) e)
 let L' : Abs.Loc := ⟨L.I, fun k => if k = nx then g' else L.μ k, nx + 1⟩
 have hμ : ∀ k, k ≠ nx → L'.μ k = L.μ k := fun k hk => if_neg hk
 have hμn : L'.μ nx = g' := if_pos rfl
 have hnb : b ≠ nx := by omega
 have hm : Mono L w L' w' := ⟨fun k hk => ⟨hk, by have := hI k hk; exact hkeep k this.1 this.2.1 this.2.2⟩, by show L.nx ≤ nx + 1; omega, fun k hk => hμ k (by omega), hW.size, hW.shape⟩
 have hIg : ¬ L.I g' := by
  rcases hgn with ⟨hl, e⟩ | e
  ·rw [e]; exact hok.apart g _ (hgl hl)
  ·rw [e]; intro hh; have := hok.lt _ hh; omega
 have hmne : l ++ s ≠ [] := by simp [hs]
 refine ⟨.tuple #[.int .i64 (bs s).size, .nilIface], L', rfl, ?_, ⟨fun k hk => Nat.lt_of_lt_of_le (hok.lt k hk) hW.size, fun k r hk => ?_, fun k r hk => ?_, fun k k' r r' hk hk' e => ?_, fun k r hk => ?_, glob_keep hok hm.keeps⟩, rfl, hm, ⟨hW.size, fun k hk hkm => ?_, fun _ h => h, fun _ h => .inl h, fun k hk => ?_, hW.shape, ⟨hW.os, hW.tape, hW.output⟩⟩⟩
 ·simp [RepV, RepT, RepL, hl2]
 ·rcases ws_look hk with ⟨rfl, rfl⟩ | ⟨_, rfl, rfl⟩ | ⟨h1, h2, h3, h4⟩
  ·rw [hμn]
   refine ⟨cur, hg', ?_, fun j c hj => ?_⟩
   ·rw [flat_eB, List.length_map, List.length_map, List.length_append]; omega
   ·rw [flat_eB, List.getElem?_map, List.getElem?_map] at hj
    cases hy : (l ++ s)[j]? with
    | none => rw [hy] at hj; cases hj
    | some y =>
     rw [hy] at hj
     injection hj with hj
     subst hj
     have hjl : j < l.length + s.length := by have := (List.getElem?_eq_some_iff.1 hy).1; rwa [List.length_append] at this
     refine ⟨.int .u8 y.toNat, ?_, rfl, by simp only [RepV, RepT]⟩
     have : (cur.toList.take (l.length + s.length))[j]? = some (.int .u8 y.toNat) := by
      rw [htake, show byV l ++ byV s = byV (l ++ s) from (List.map_append ..).symm]
      simp only [byV, List.getElem?_map, hy, Option.map_some]
     rw [List.getElem?_take, if_pos hjl] at this
     simpa using this
  ·rw [hμ _ hnb]
   refine ⟨_, hb', by simpa using hsz, fun j c hj => ?_⟩
   have h2 : 1 < arr.size := (Array.getElem?_eq_some_iff.1 ha1).1
   match j, hj with
   | 0, hj =>
    injection hj with hj
    subst hj
    refine ⟨.pointer (some ⟨L.μ k, 0, none⟩), ?_, rfl, ?_⟩
    ·rw [Array.getElem?_setIfInBounds, if_neg (by omega), Array.getElem?_setIfInBounds, if_pos rfl, if_pos (by omega)]
    ·simp only [RepV]; exact ⟨by show k < nx + 1; omega, by rw [hμ _ hnb]⟩
   | 1, hj =>
    injection hj with hj
    subst hj
    refine ⟨.slice (some ⟨g', 0, none⟩) (l.length + s.length) cap, ?_, rfl, ?_⟩
    ·rw [Array.getElem?_setIfInBounds, if_pos rfl, if_pos (by simp; omega)]
    ·obtain ⟨y, r, e⟩ := List.exists_cons_of_ne_nil hmne
     have hel : (l ++ s).length = l.length + s.length := List.length_append ..
     rw [e] at hel ⊢
     simp only [rowP, RepV, hμn, hel]
     refine ⟨by show nx < nx + 1; omega, hg'lt, cap, rfl, hncap, fun arr' ty fz he => ?_⟩
     rw [hg'] at he
     injection he with he
     injection he with he1 he2 he3
     subst he1
     show 0 + cap * 1 ≤ _
     omega
   | j + 2, hj => cases hj
  ·rw [hμ _ h1]
   exact (hok.rep k r h4).keep hm (hother k r h4 h2 h3)
 ·rcases ws_look hk with ⟨rfl, rfl⟩ | ⟨_, rfl, rfl⟩ | ⟨h1, h2, h3, h4⟩
  ·rw [hμn]; exact hIg
  ·rw [hμ _ hnb]; exact hok.apart k _ h
  ·rw [hμ _ h1]; exact hok.apart k _ h4
 ·have key : ∀ k r, Abs.look (wsH H b g nx l (l ++ s)) k = some r → k ≠ nx → L.μ k ≠ g' := fun k r hk hkn => by
   rcases ws_look hk with ⟨rfl, rfl⟩ | ⟨_, rfl, rfl⟩ | ⟨h1, h2, h3, h4⟩
   ·exact absurd rfl hkn
   ·exact fun e => hg'b e.symm
   ·rcases hgn with ⟨hl, e⟩ | e
    ·rw [e]
     intro e2
     rcases h3 with h3 | h3
     ·exact hl h3
     ·exact h3 (hok.inj _ _ _ _ h4 (hgl hl) e2)
    ·rw [e]; have := (hok.rep k r h4).lt; omega
  have old : ∀ k r, Abs.look (wsH H b g nx l (l ++ s)) k = some r → k ≠ nx → ∃ r0, Abs.look H k = some r0 := fun k r hk hkn => by
   rcases ws_look hk with ⟨rfl, rfl⟩ | ⟨_, rfl, rfl⟩ | ⟨h1, h2, h3, h4⟩
   ·exact absurd rfl hkn
   ·exact ⟨_, h⟩
   ·exact ⟨_, h4⟩
  by_cases k1 : k = nx
  ·by_cases k2 : k' = nx
   ·rw [k1, k2]
   ·rw [k1, hμn, hμ _ k2] at e
    exact absurd e.symm (key k' r' hk' k2)
  ·by_cases k2 : k' = nx
   ·rw [k2, hμn, hμ _ k1] at e
    exact absurd e (key k r hk k1)
   ·rw [hμ _ k1, hμ _ k2] at e
    obtain ⟨r0, h0⟩ := old k r hk k1
    obtain ⟨r1, h1⟩ := old k' r' hk' k2
    exact hok.inj _ _ _ _ h0 h1 e
 ·show k < nx + 1
  rcases ws_look hk with ⟨rfl, rfl⟩ | ⟨_, rfl, rfl⟩ | ⟨h1, h2, h3, h4⟩
  ·omega
  ·omega
  ·have := hok.nx k _ h4; omega
 ·refine hkeep k hk (fun e => hkm ⟨b, _, h, e.symm⟩) ?_
  by_cases hl : l = []
  ·exact .inl hl
  ·exact .inr fun e => hkm ⟨g, _, hgl hl, e.symm⟩
 ·obtain ⟨k0, r, h0, e⟩ := hk
  rcases ws_look h0 with ⟨rfl, rfl⟩ | ⟨_, rfl, rfl⟩ | ⟨h1, h2, h3, h4⟩
  ·rw [hμn] at e
   rcases hgn with ⟨hl, e2⟩ | e2
   ·exact .inr ⟨g, _, hgl hl, by rw [← e, e2]⟩
   ·exact .inl (by omega)
  ·rw [hμ _ hnb] at e
   exact .inr ⟨_, _, h, e⟩
  ·rw [hμ _ h1] at e
   exact .inr ⟨_, _, h4, e⟩
open Go Go.Abs Go.Shelf Go.RowKit
section
variable {P : Program} {ρ : Ren}
set_option maxHeartbeats 1000000 in
set_option maxRecDepth 100000 in
theorem bld_str (L : Lays.n169 P ρ) (X : Builder.Extra P ρ) (b g cap : Nat) (arr cur : Array Value) (l : List UInt8) (w : World) (hb : w.heap[b]? = some (.cells arr (ρ.t 72) (0, 0)))
  (ha1 : arr[1]? = some (.slice (some ⟨g, 0, none⟩) l.length cap)) (hg : w.heap[g]? = some (.cells cur (ρ.t 5) (0, 0))) (hnc : l.length ≤ cap) (hcs : cap ≤ cur.size) (htake : cur.toList.take l.length = byV l) (h0 : l ≠ []) (hlen : l.length ≤ 140737488355328) :
  Calls P (ρ.f 169) #[.pointer (some ⟨b, 0, none⟩)] w fun e w' => e = .returned (.string (bs l)) ∧ w' = w.drew.freeze ⟨g, 0, none⟩ l.length := by
 have hl0 : l.length ≠ 0 := by simpa using h0
 have c1 : w.drew.cell? ⟨b, 1, none⟩ = some (.slice (some ⟨g, 0, none⟩) l.length cap) := by
  have : w.drew.heap[b]? = some (.cells arr (ρ.t 72) (0, 0)) := hb
  rw [Lib.cell_of_heap this]; exact ha1
 have hg' : w.drew.heap[g]? = some (.cells cur (ρ.t 5) (0, 0)) := hg
 have hSD : (Builtin.unsafeSliceData_ #[(ρ.t 37)] (ρ.t 127) #[.slice (some ⟨g, 0, none⟩) l.length cap]).run P w.drew = .ok (.pointer (some ⟨g, 0, none⟩)) w.drew :=
  Lib.run_unsafeSliceData_row _ _ _ _ _ _ (by omega)
 have hUS : (Builtin.unsafeString_ #[(ρ.t 127), (ρ.t 3)] (ρ.t 9) #[.pointer (some ⟨g, 0, none⟩), .int .i64 l.length]).run P w.drew = .ok (.string ⟨l.toArray⟩) (w.drew.freeze ⟨g, 0, none⟩ l.length) := by
  refine Lib.run_unsafeString_row w.drew (ρ.t 127) (ρ.t 3) (ρ.t 9) (ρ.t 5) L.t127 X.cellsByte g cur.size (by simp [World.shape?, hg']) l h0 (by omega) (by omega) ?_
  intro j x hx
  have hj : j < l.length := (List.getElem?_eq_some_iff.1 hx).1
  have : (cur.toList.take l.length)[j]? = some (.int .u8 x.toNat) := by rw [htake]; simp only [byV, List.getElem?_map, hx, Option.map_some]
  rw [List.getElem?_take, if_pos hj] at this
  have ea : (⟨g, 0, none⟩ : Addr).add j = ⟨g, j, none⟩ := by simp only [Addr.add]; split <;> simp_all
  rw [ea, Lib.cell_of_heap hg']
  simpa using this
 have mixed := L.mixed
 have t72 := L.t72; have a72 := L.a72; have z72 := L.z72; have v72 := L.v72; have u72 := run_underlying L.t72
 have t70 := L.t70; have a70 := L.a70; have z70 := L.z70; have v70 := L.v70; have u70 := run_underlying L.t70
 have t37 := L.t37; have a37 := L.a37; have z37 := L.z37; have v37 := L.v37; have u37 := run_underlying L.t37
 have t127 := L.t127; have a127 := L.a127; have z127 := L.z127; have v127 := L.v127; have u127 := run_underlying L.t127
 have t3 := L.t3; have a3 := L.a3; have z3 := L.z3; have v3 := L.v3; have u3 := run_underlying L.t3
 have t9 := L.t9; have a9 := L.a9; have z9 := L.z9; have v9 := L.v9; have u9 := run_underlying L.t9
 have t5 := X.t5; have a5 := X.a5; have z5 := X.z5; have v5 := X.v5; have u5 := run_underlying X.t5
 go_enter L.f169, Body.n169_ntmps ρ
 go_wp2
 go_region_o
 all_goals (go_wp2; go_ret; exact ⟨rfl, rfl⟩)
set_option maxHeartbeats 1000000 in
set_option maxRecDepth 100000 in
theorem bld_len (L : Lays.n170 P ρ) (b : Nat) (arr : Array Value) (ao : Option Addr) (n cap : Nat) (w : World) (hb : w.heap[b]? = some (.cells arr (ρ.t 72) (0, 0))) (ha1 : arr[1]? = some (.slice ao n cap)) :
  Calls P (ρ.f 170) #[.pointer (some ⟨b, 0, none⟩)] w fun e w' => e = .returned (.int .i64 n) ∧ w' = w := by
 have c1 : w.cell? ⟨b, 1, none⟩ = some (.slice ao n cap) := by rw [Lib.cell_of_heap hb]; exact ha1
 have mixed := L.mixed
 have t72 := L.t72; have a72 := L.a72; have z72 := L.z72; have v72 := L.v72; have u72 := run_underlying L.t72
 have t70 := L.t70; have a70 := L.a70; have z70 := L.z70; have v70 := L.v70; have u70 := run_underlying L.t70
 have t37 := L.t37; have a37 := L.a37; have z37 := L.z37; have v37 := L.v37; have u37 := run_underlying L.t37
 have t3 := L.t3; have a3 := L.a3; have z3 := L.z3; have v3 := L.v3; have u3 := run_underlying L.t3
 go_enter L.f170, Body.n170_ntmps ρ
 go_wp2
 go_ret
 exact ⟨rfl, rfl⟩
end
theorem frz_heap (w : World) (g k n : Nat) (h : k ≠ g) : (w.drew.freeze ⟨g, 0, none⟩ n).heap[k]? = w.heap[k]? := by
 unfold World.freeze
 split
 ·rfl
 ·simp only [Array.getElem?_modify]
  rw [if_neg (fun e => h e.symm)]
  rfl
theorem frz_size (w : World) (g n : Nat) : (w.drew.freeze ⟨g, 0, none⟩ n).heap.size = w.heap.size := by
 unfold World.freeze
 split
 ·rfl
 ·simp only [Array.size_modify]; rfl
theorem frz_shapes (w : World) (g n : Nat) : Abs.Shapes w (w.drew.freeze ⟨g, 0, none⟩ n) := fun k hk arr ty fz he => by
 by_cases hkg : k = g
 ·subst hkg
  unfold World.freeze at he
  split at he
  ·exact ⟨arr, fz, he, rfl⟩
  ·simp only [Array.getElem?_modify, if_true] at he
   obtain ⟨ob, h1, h2⟩ := Option.map_eq_some_iff.1 he
   cases ob with
   | cells c e f =>
    obtain ⟨lo, hi⟩ := f
    injection h2 with h3 h4 h5
    subst h3; subst h4
    exact ⟨c, _, h1, rfl⟩
   | _ => simp at h2
 ·rw [frz_heap w g k n hkg] at he
  exact ⟨arr, fz, he, rfl⟩
theorem frz_os (w : World) (g n : Nat) : Outer w (w.drew.freeze ⟨g, 0, none⟩ n) := by
 unfold World.freeze
 split
 ·exact ⟨rfl, rfl, rfl⟩
 ·exact ⟨rfl, rfl, rfl⟩
theorem str_call {H : Heap} {nx b g : Nat} {p : PV} {l : List UInt8} (h : Abs.look H b = some (bldR p g l)) (hg : RowAt eB tyU H g l) (h0 : l ≠ []) (hlen : l.length ≤ 140737488355328) :
  CallP Tryz.prog (G q) 39 [.ptr b 0] H nx (.t (sv (bs l))) (rem H g) nx := by
 refine ⟨⟨_, (Tryz.f39.body).get!, Tryz.func39, by kernel_rfl, by kernel_rfl⟩, fun L w us hok hnx hargs => ?_⟩
 have hus : us = #[.pointer (some ⟨L.μ b, 0, none⟩)] := by
  simp only [RepVL, RepV, RepT] at hargs
  obtain ⟨x, xs, e, ⟨_, rfl⟩, rfl⟩ := hargs
  exact Array.ext' e
 subst hus
 obtain ⟨arr, hb, hsz, hc⟩ := hok.rep b _ h
 obtain ⟨v, ha1, _, hv⟩ := hc 1 (rowP eB g l) rfl
 obtain ⟨⟨_, hbuf⟩, hob⟩ := buf_own hok hg hv
 have hgl := hg.resolve_left h0
 have hpos : 0 < l.length := List.length_pos_iff.2 h0
 obtain ⟨g', cap, cur, rfl, hg', hnc, hcs, htake⟩ := hbuf.resolve_left (by rintro ⟨_, h⟩; omega)
 have hge : g' = L.μ g := by
  rw [show l.isEmpty = false by cases l <;> simp_all] at hob
  injection hob
 subst hge
 refine (bld_str (ρ := Tryz.lays169_ren) Tryz.lays169 Tryz.Builder_Extra_169 (L.μ b) (L.μ g) cap arr cur l w hb ha1 hg' hnc hcs htake h0 hlen).mono ?_
 rintro e w' ⟨rfl, rfl⟩
 have hk : ∀ k, k ≠ L.μ g → (w.drew.freeze ⟨L.μ g, 0, none⟩ l.length).heap[k]? = w.heap[k]? := fun k hk => frz_heap w _ k _ hk
 have hlook : ∀ k r, Abs.look (rem H g) k = some r → Abs.look H k = some r ∧ L.μ k ≠ L.μ g := fun k r hk => by
  rw [look_rem] at hk
  split at hk
  ·cases hk
  ·rename_i hkg
   exact ⟨hk, fun e => hkg (hok.inj _ _ _ _ hk hgl e)⟩
 have hm : Mono L w L (w.drew.freeze ⟨L.μ g, 0, none⟩ l.length) := ⟨fun k hI => ⟨hI, hk k (fun e => hok.apart g _ hgl (e ▸ hI))⟩, Nat.le_refl _, fun _ _ => rfl, by rw [frz_size]; exact Nat.le_refl _, frz_shapes _ _ _⟩
 refine ⟨_, L, rfl, by simp only [RepV, RepT], ⟨fun k hI => by rw [frz_size]; exact hok.lt k hI, fun k r hr => ?_, fun k r hr => hok.apart k r (hlook k r hr).1, fun k k' r r' hr hr' => hok.inj k k' r r' (hlook k r hr).1 (hlook k' r' hr').1, fun k r hr => hok.nx k r (hlook k r hr).1, glob_keep hok hm.keeps⟩, hnx, hm, ⟨by rw [frz_size]; exact Nat.le_refl _, fun k hk2 hkm => hk k (fun e => hkm ⟨g, _, hgl, e.symm⟩), fun _ h => h, fun _ h => .inl h, fun k hkm => ?_, frz_shapes _ _ _, frz_os _ _ _⟩⟩
 ·obtain ⟨h1, h2⟩ := hlook k r hr
  exact (hok.rep k r h1).keep hm (hk _ h2)
 ·obtain ⟨k0, r, h1, e⟩ := hkm
  exact .inr ⟨k0, r, (hlook k0 r h1).1, e⟩
theorem len_call {H : Heap} {nx b g : Nat} {p : PV} {l : List UInt8} (h : Abs.look H b = some (bldR p g l)) (hg : RowAt eB tyU H g l) :
  CallP Tryz.prog (G q) 38 [.ptr b 0] H nx (.t (iv (l.length : Int))) H nx := by
 refine ⟨⟨_, (Tryz.f38.body).get!, Tryz.func38, by kernel_rfl, by kernel_rfl⟩, fun L w us hok hnx hargs => ?_⟩
 have hus : us = #[.pointer (some ⟨L.μ b, 0, none⟩)] := by
  simp only [RepVL, RepV, RepT] at hargs
  obtain ⟨x, xs, e, ⟨_, rfl⟩, rfl⟩ := hargs
  exact Array.ext' e
 subst hus
 obtain ⟨arr, hb, hsz, hc⟩ := hok.rep b _ h
 obtain ⟨v, ha1, _, hv⟩ := hc 1 (rowP eB g l) rfl
 obtain ⟨⟨_, hbuf⟩, _⟩ := buf_own hok hg hv
 obtain ⟨ao, cap, rfl⟩ : ∃ ao cap, v = .slice ao l.length cap := by
  rcases hbuf with ⟨rfl, h0⟩ | ⟨g', cap, cur, rfl, _⟩
  ·exact ⟨none, 0, by rw [h0]⟩
  ·exact ⟨_, _, rfl⟩
 refine (bld_len (ρ := Tryz.lays170_ren) Tryz.lays170 (L.μ b) arr ao l.length cap w hb ha1).mono ?_
 rintro e w' ⟨rfl, rfl⟩
 exact ⟨_, L, rfl, by simp only [RepV, RepT], hok, hnx, Mono.refl _ _, Ext.refl _ _ _⟩
noncomputable def gJo (ts : List T) : Option T := g2 (tSl eStr) tStr (fun l s => open Classical in if l.length ≤ 1000 ∧ (Lib.join (l.map (·.data.toList)) s.data.toList).length ≤ 1000000000 then some (sv (bs (Lib.join (l.map (·.data.toList)) s.data.toList))) else none) ts
theorem hJo : GOK Tryz.prog (G q) 65 gJo := g2_ok fun a b l s r ha hb hr => by
 have e2 : b = .v (.string s) := hb
 subst e2
 split at hr
 ·rename_i hc
  injection hr with hr; subst hr
  refine ⟨⟨_, (Tryz.f65.body).get!, Tryz.func65, by kernel_rfl, by kernel_rfl⟩, fun I w us hlt hG hargs => ?_⟩
  obtain ⟨J, hJ⟩ : ∃ J, J = Lib.join (l.map (·.data.toList)) s.data.toList := ⟨_, rfl⟩
  rw [← hJ] at hc ⊢
  have fin : Calls Tryz.prog 65 us w (fun e w' => e = .returned (.string (bs J)) ∧ Below w.heap.size w w') → Calls Tryz.prog 65 us w fun e w' => ∃ v r I', e = .returned v ∧ r = sv (bs J) ∧ RepT I' w' r v ∧ Outer w w' ∧ w.heap.size ≤ w'.heap.size ∧ (∀ g, g < w.heap.size → w'.heap[g]? = w.heap[g]?) ∧
   (∀ g, I g → I' g) ∧ (∀ g, I' g → I g ∨ w.heap.size ≤ g) ∧ (∀ g, I' g → g < w'.heap.size) := fun h => h.mono fun e w' ⟨he, hb⟩ =>
   ⟨_, _, I, he, rfl, by simp only [RepT], ⟨hb.os, hb.tape, hb.output⟩, hb.size, hb.block, fun _ h => h, fun _ h => .inl h, fun g hg => Nat.lt_of_lt_of_le (hlt g hg) hb.size⟩
  refine fin ?_
  have hnone : ∀ (a0 : Option Addr) (c : Nat), l = [] → us = #[.slice a0 0 c, .string s] → Calls Tryz.prog 65 us w (fun e w' => e = .returned (.string (bs J)) ∧ Below w.heap.size w w') := fun a0 c hl hu => by
   subst hl; subst hu
   have : J = [] := by rw [hJ]; rfl
   subst this
   exact (Tryz.strings_Join_none a0 c s w).mono fun e w' h => ⟨h.1, below_of_eq h.2⟩
  rcases ha with ⟨rfl, hl⟩ | rfl
  ·simp only [RepL, RepT] at hargs
   obtain ⟨x, xs, e, rfl, y, ys, rfl, rfl, rfl⟩ := hargs
   exact hnone none 0 hl (Array.ext' e)
  ·simp only [slT, RepL, RepT] at hargs
   obtain ⟨x, xs, e, ⟨a0, c, rfl, hnc, hx⟩, y, ys, rfl, rfl, rfl⟩ := hargs
   rcases hx with ⟨hl, _⟩ | ⟨hsp, hI, hC⟩
   ·have hl' := List.eq_nil_of_length_eq_zero hl
    refine hnone (some a0) c hl' (Array.ext' (by rw [e, hl]))
   ·obtain ⟨bk, o, sp⟩ := a0
    simp only at hsp hI hC
    subst hsp
    have hu : us = #[.slice (some ⟨bk, o, none⟩) l.length c, .string s] := Array.ext' e
    subst hu
    rw [flat_str] at hC
    rw [hJ]
    exact Tryz.strings_Join bk o c l s w (fun j x hx => by
     obtain ⟨z, h1, _, h2⟩ := hC.at_ j (c := .v (.string x)) (by rw [List.getElem?_map, hx]; rfl)
     simp only [RepT] at h2
     subst h2
     exact h1) (hlt bk hI) (by omega) hnc (by rw [← hJ]; omega)
 ·cases hr
theorem join_dot (l : List ByteArray) : Lib.join (l.map (·.data.toList)) [46] = dotted l := by
 cases l with
 | nil => rfl
 | cons s r =>
  rw [List.map_cons, Lib.join_cons, dotted_cons]
  congr 1
  induction r with
  | nil => rfl
  | cons x r ih =>
   rw [List.map_cons, tailP, dotted_cons, ← ih]
   simp [Lib.joinTail]
theorem gJo_eq {t : T} {l : List ByteArray} (h : IsS eStr t l) (hl : l.length ≤ 1000) (hd : (dotted l).length ≤ 1000000000) : gJo [t, sv ⟨#[46]⟩] = some (sv (bs (dotted l))) := by
 have e : Lib.join (l.map (·.data.toList)) (⟨#[46]⟩ : ByteArray).data.toList = dotted l := join_dot l
 show g2 _ _ _ _ = _
 rw [g2_eq (τ := tSl eStr) (σ := tStr) (x := l) (y := ⟨#[46]⟩) h rfl, e, if_pos ⟨hl, hd⟩]
open Go Go.Abs
section
variable {H : Heap} {b g NX : Nat} {l m : List UInt8}
theorem ws_at0 {R : Row} (h : Abs.look H b = some R) (hb : b ≠ NX) (hg : l = [] ∨ b ≠ g) : Abs.look (wsH H b g NX l m) b = some (bldR (.ptr b 0) NX m) := by
 unfold wsH
 rw [look_cons, if_neg (Ne.symm hb), look_upd, if_pos rfl]
 cases l with
 | nil => show Option.map _ (Abs.look H b) = _; rw [h]; rfl
 | cons x r =>
  rw [if_neg (by simp), look_rem, if_neg (hg.resolve_left (by simp)), h]; rfl
theorem ws_other {k : Nat} (hk : k ≠ b) (hg : l = [] ∨ k ≠ g) (hn : k ≠ NX) : Abs.look (wsH H b g NX l m) k = Abs.look H k := by
 unfold wsH
 rw [look_cons, if_neg (Ne.symm hn), look_upd, if_neg hk]
 cases l with
 | nil => rfl
 | cons x r => rw [if_neg (by simp), look_rem, if_neg (hg.resolve_left (by simp))]
theorem ws_row : RowAt eB tyU (wsH H b g NX l m) NX m := .inr (by unfold wsH; rw [look_cons, if_pos rfl])
theorem ws_fresh (hb : b < NX) : (∀ k x, Abs.look H k = some x → k < NX) → ∀ k x, Abs.look (wsH H b g NX l m) k = some x → k < NX + 1 := fun hf k x hk => by
 rcases ws_look hk with ⟨rfl, _⟩ | ⟨_, rfl, _⟩ | ⟨_, _, _, h4⟩
 ·omega
 ·omega
 ·have := hf k x h4; omega
end
theorem W.lift {f : FuncId} {ps : List PV} {p : PV} {l m : List UInt8} {R0 : Heap} {n0 : Nat} {r : T}
  (h : CallP Tryz.prog (G q) f ps ([(0, bldR p 1 l)] ++ (rowH eB tyU 1 l ++ R0)) n0 (.t r) ([(0, bldR (.ptr 0 0) n0 m)] ++ (rowH eB tyU n0 m ++ R0)) (n0 + 1))
  {H : Heap} {NX : Nat} (σ : Nat → Nat) (hσ : ∀ x, x < n0 → σ x < NX) (hinj : ∀ x y, x < n0 → y < n0 → σ x = σ y → x = y) (hn0 : 2 ≤ n0) (hm : m ≠ [])
  (hp : under n0 p = true) (h0 : Abs.look H (σ 0) = some (bldR (ren σ p) (σ 1) l)) (hg : RowAt eB tyU H (σ 1) l)
  (hR : ∀ x ∈ R0, Abs.look H (σ x.1) = some (renRow σ x.2) ∧ 2 ≤ x.1 ∧ x.1 < n0 ∧ underRow n0 x.2 = true) (hR2 : ∀ x ∈ R0, renRow (lifted σ n0 NX) x.2 = renRow σ x.2 ∧ underRow (n0 + 1) x.2 = true ∧ Abs.look R0 x.1 = some x.2) (hps : underL n0 ps = true) :
  CallP Tryz.prog (G q) f (renL σ ps) H NX (.t r) (wsH H (σ 0) (σ 1) NX l m) (NX + 1) := by
 have h2 := CallP.lift h σ NX H (wsH H (σ 0) (σ 1) NX l m) hσ hinj (by omega) (fun x hx => ?_) hps rfl (fun x hx => ?_) (fun k x hk => ?_)
 ·rw [show NX + (n0 + 1 - n0) = NX + 1 by omega] at h2
  exact h2
 ·rcases List.mem_append.1 hx with hx | hx
  ·simp only [List.mem_singleton] at hx
   subst hx
   refine ⟨?_, by show 0 < n0; omega, ?_⟩
   ·rw [h0]
    simp only [bldR, renRow, renL, ren_rowP]
   ·simp only [bldR, underRow, underL, hp, under_rowP _ _ _ _ (show 1 < n0 by omega), Bool.and_self]
  ·rcases List.mem_append.1 hx with hx | hx
   ·obtain ⟨hn, rfl⟩ := mem_rowH hx
    exact ⟨by show Abs.look H (σ 1) = _; rw [renRow_rowOf]; exact hg.resolve_left hn, by show 1 < n0; omega, underRow_rowOf _ _ _ _⟩
   ·obtain ⟨h1, _, h3, h4⟩ := hR x hx
    exact ⟨h1, h3, h4⟩
 ·rcases List.mem_append.1 hx with hx | hx
  ·simp only [List.mem_singleton] at hx
   subst hx
   refine ⟨by show 0 < n0 + 1; omega, ?_⟩
   simp only [bldR, underRow, underL, under_rowP _ _ _ _ (show n0 < n0 + 1 by omega), Bool.and_self, under, Bool.and_true]
   exact decide_eq_true (by omega)
  ·rcases List.mem_append.1 hx with hx | hx
   ·obtain ⟨_, rfl⟩ := mem_rowH hx
    exact ⟨by show n0 < n0 + 1; omega, underRow_rowOf _ _ _ _⟩
   ·obtain ⟨_, _, h3, h4⟩ := hR x hx
    exact ⟨by omega, (hR2 x hx).2.1⟩
 ·rcases ws_look hk with ⟨rfl, rfl⟩ | ⟨hkn, rfl, rfl⟩ | ⟨h1, h2, h3, h4⟩
  ·refine .inl ⟨n0, rowOf eB tyU m, ?_, by simp [lifted], by rw [renRow_rowOf]⟩
   exact ((RowAt.head eB tyU R0 n0 m).cons (k := 0) (by omega)).resolve_left hm
  ·refine .inl ⟨0, bldR (.ptr 0 0) n0 m, rfl, by simp [lifted]; omega, ?_⟩
   have e0 : lifted σ n0 NX 0 = σ 0 := if_pos (by omega)
   have e1 : lifted σ n0 NX n0 = NX := by simp [lifted]
   simp only [bldR, renRow, renL, ren, ren_rowP, e0, e1]
  ·by_cases hx : ∃ y ∈ R0, σ y.1 = k
   ·obtain ⟨y, hy, rfl⟩ := hx
    obtain ⟨k1, k2, k3, k4⟩ := hR y hy
    obtain ⟨j1, j2, j3⟩ := hR2 y hy
    refine .inl ⟨y.1, y.2, ?_, by simp [lifted, k3], ?_⟩
    ·show Abs.look ((0, _) :: (rowH eB tyU n0 m ++ R0)) y.1 = _
     rw [look_cons, if_neg (by omega)]
     cases m with
     | nil => exact j3
     | cons z r => show Abs.look ((n0, _) :: R0) y.1 = _; rw [look_cons, if_neg (by omega)]; exact j3
    ·rw [h4] at k1
     injection k1 with k1
     rw [j1, k1]
   ·refine .inr ⟨h4, fun b0 x0 hb0 e => ?_⟩
    rcases List.mem_append.1 (mem_of_look hb0) with h5 | h5
    ·simp only [List.mem_singleton] at h5
     injection h5 with h5
     subst h5
     exact h2 e.symm
    ·rcases List.mem_append.1 h5 with h5 | h5
     ·obtain ⟨hn, h6⟩ := mem_rowH h5
      injection h6 with h6
      subst h6
      rcases h3 with h3 | h3
      ·exact hn h3
      ·exact h3 e.symm
     ·exact hx ⟨_, h5, e⟩
abbrev pNil : PV := .t (.v (.pointer none))
def WrOK (q : Gl) (d : Ds) : Prop := ∀ (c : List T) (p : PV) (l : List UInt8), Abs.IsD d c → (p = pNil ∨ p = .ptr 0 0) → l.length + (wrD d).length ≤ 1000000000 →
 CallP Tryz.prog (G q) 37 [.ptr 0 0, .t (.ag c)] ([(0, bldR p 1 l)] ++ (rowH eB tyU 1 l ++ [])) 2 (.t (.tu [])) ([(0, bldR (.ptr 0 0) 2 (l ++ wrD d))] ++ (rowH eB tyU 2 (l ++ wrD d) ++ [])) 3
theorem k_write_1 : FnOK Tryz.prog (G q) 63 3 23 M_desc_write_1 [] := by
 obtain ⟨fn, h1, h2, h3, h4, h5⟩ := k_desc_write_1 (q := q)
 exact ⟨fn, h1, h2, h3, h4, by omega⟩
theorem wrD_ne : ∀ {d : Ds}, Wr d → wrD d ≠ [] := fun h => by
 induction h with
 | mk op name path kids h1 h2 h3 h4 n1 n2 h5 h6 h7 h8 ih =>
  rw [wrD]
  split
  ·rename_i e
   intro hn
   have : name.data.toList.length = name.size := rfl
   rw [hn] at this
   exact n1 e this.symm
  ·split
   ·simp
   ·split
    ·simp
    ·split
     ·rename_i e
      obtain ⟨k, r, rfl⟩ := List.exists_cons_of_ne_nil (n2 e)
      rw [wrL]
      intro hn
      exact ih k (by simp) (List.append_eq_nil_iff.1 hn).1
     ·split
      ·simp
      ·split
       ·simp
       ·split
        ·simp
        ·split <;> simp
theorem WrOK.at_ {d : Ds} (h : WrOK q d) (hw : Wr d) {H : Heap} {NX b g : Nat} {p : PV} {l : List UInt8} {c : List T} (hc : Abs.IsD d c) (hl : l.length + (wrD d).length ≤ 1000000000) (h0 : Abs.look H b = some (bldR p g l)) (hp : p = pNil ∨ p = .ptr b 0) (hg : RowAt eB tyU H g l) (hb : b < NX) (hgn : g < NX) (hgb : g ≠ b) :
  CallP Tryz.prog (G q) 37 [.ptr b 0, .t (.ag c)] H NX (.t (.tu [])) (wsH H b g NX l (l ++ wrD d)) (NX + 1) := by
 obtain ⟨p0, hp0, hpr⟩ : ∃ p0, (p0 = pNil ∨ p0 = .ptr 0 0) ∧ p = ren (fun x => if x = 0 then b else g) p0 := by
  rcases hp with rfl | rfl
  ·exact ⟨pNil, .inl rfl, rfl⟩
  ·exact ⟨.ptr 0 0, .inr rfl, rfl⟩
 have hpu : under 2 p0 = true := by rcases hp0 with rfl | rfl <;> rfl
 have := W.lift (h c p0 l hc hp0 hl) (H := H) (NX := NX) (fun x => if x = 0 then b else g) (fun x _ => by show (if x = 0 then b else g) < NX; split <;> assumption)
  (fun x y hx hy e => by
   have e : (if x = 0 then b else g) = (if y = 0 then b else g) := e
   split at e <;> split at e <;> omega) (Nat.le_refl _) (by simp [wrD_ne hw]) hpu (by rw [← hpr]; exact h0) hg (fun x hx => (by cases hx)) (fun x hx => (by cases hx)) rfl
 exact this
theorem sub_bld {B nx nx' n k b : Nat} {env env' : List (Nat × PV)} {H R : Heap} {p : PV} {l : List UInt8} (h0 : Abs.look H 0 = some (bldR p k l)) (hp : p = pNil ∨ p = .ptr 0 0) (hr : RowAt eB tyU H k l) (hb : b < nx') (hB : B ≤ b) (hb0 : 0 < b) (hk0 : k ≠ 0)
  (hR : ∀ x ∈ R, Abs.look H x.1 = some (renRow (fun x => if x = b then k else x) x.2) ∧ x.1 < nx' ∧ x.1 ≠ b ∧ x.1 ≠ k ∧ underRow nx' x.2 = true ∧ x.1 ≠ 0)
  (he : ∀ x ∈ env', Abs.look env x.1 = some (ren (fun x => if x = b then k else x) x.2) ∧ under nx' x.2 = true) :
  Sub Tryz.prog (G q) B ⟨env, H, nx, n⟩ ⟨env', [(0, bldR p b l)] ++ (rowH eB tyU b l ++ R), nx', n⟩ := by
 have s0 : (if (0 : Nat) = b then k else 0) = 0 := if_neg (by omega)
 refine sub_ren (fun x => if x = b then k else x) rfl (by show B ≤ nx'; omega) (fun x hx => by show (if x = b then k else x) = x; rw [if_neg (by omega)]) he (fun x hx => ?_) (fun x hx y hy e => ?_)
 ·rcases List.mem_append.1 hx with hx | hx
  ·simp only [List.mem_singleton] at hx
   subst hx
   refine ⟨?_, by show 0 < nx'; omega, ?_⟩
   ·show Abs.look H (if (0 : Nat) = b then k else 0) = _
    rw [s0, h0]
    have : ren (fun x => if x = b then k else x) p = p := by
     rcases hp with rfl | rfl
     ·rfl
     ·simp only [ren, s0]
    simp only [bldR, renRow, renL, ren_rowP, this, if_true]
   ·have : under nx' p = true := by
     rcases hp with rfl | rfl
     ·rfl
     ·exact decide_eq_true (by omega)
    simp only [bldR, underRow, underL, this, under_rowP _ _ _ _ hb, Bool.and_self]
  ·rcases List.mem_append.1 hx with hx | hx
   ·obtain ⟨hn, rfl⟩ := mem_rowH hx
    refine ⟨?_, hb, underRow_rowOf _ _ _ _⟩
    show Abs.look H (if b = b then k else b) = _
    rw [if_pos rfl, renRow_rowOf]
    exact hr.resolve_left hn
   ·obtain ⟨h1, h2, h3, h4, h5, h6⟩ := hR x hx
    refine ⟨?_, h2, h5⟩
    show Abs.look H (if x.1 = b then k else x.1) = _
    rw [if_neg h3]
    exact h1
 ·have cls : ∀ z, z ∈ [(0, bldR p b l)] ++ (rowH eB tyU b l ++ R) → z.1 = 0 ∨ z.1 = b ∨ (z.1 ≠ 0 ∧ z.1 ≠ b ∧ z.1 ≠ k) := fun z hz => by
   rcases List.mem_append.1 hz with hz | hz
   ·simp only [List.mem_singleton] at hz
    subst hz; exact .inl rfl
   ·rcases List.mem_append.1 hz with hz | hz
    ·obtain ⟨_, rfl⟩ := mem_rowH hz; exact .inr (.inl rfl)
    ·obtain ⟨h1, h2, h3, h4, h5, h6⟩ := hR z hz
     exact .inr (.inr ⟨h6, h3, h4⟩)
  have e : (if x.1 = b then k else x.1) = (if y.1 = b then k else y.1) := e
  have cx := cls x hx
  have cy := cls y hy
  split at e <;> split at e <;> omega
def tyBp : Nat := 61
abbrev boxB : Row := .cells tyBp [.ptr 0 0]
structure Kw where
 j : Nat
 p : PV
 A : List UInt8
def SKw (tk : T) (sep : List UInt8) (n : Nat) (a : Kw) : AState := ⟨[(9, .t (iv (a.j : Int))), (8, .t (iv (n : Int))), (7, .t tk), (1, .t (sv (bs sep))), (2, .ptr 2 0)], [(0, bldR a.p 3 a.A)] ++ (rowH eB tyU 3 a.A ++ [(2, boxB)]), 4, 23⟩
structure OkKw (kids : List Ds) (sep m : List UInt8) (p : PV) (a : Kw) : Prop where
 le : a.j ≤ kids.length
 hp : a.p = pNil ∨ a.p = .ptr 0 0
 h0 : a.p = pNil → a.j = 0 ∧ p = pNil
 eq : a.A ++ stillW sep sep kids a.j = m
theorem ld_box {H : Heap} (h : Abs.look H 2 = some boxB) : loadM false 1 H (.ptr 2 0) = some (.ptr 0 0) := by
 simp only [loadM, h]; rfl
theorem ld_agg {H : Heap} {b ty : Nat} {a b0 c d : T} (h : Abs.look H b = some (.cells ty [.t a, .t b0, .t c, .t d])) : loadM true 4 H (.ptr b 0) = some (.t (.ag [a, b0, c, d])) := by
 simp only [loadM, h]; rfl
theorem st_new (R : Heap) (a b0 c d : T) : storeM 4 ((4, zD) :: R) (.ptr 4 0) (.t (.ag [a, b0, c, d])) = some ((4, .cells 25 [.t a, .t b0, .t c, .t d]) :: R) := rfl
theorem kids_ok {kids : List Ds} (hw : ∀ k ∈ kids, WrOK q k ∧ Wr k) (hn : kids.length ≤ 1000) {tk : T} (hk : IsK tk kids) (sep : List UInt8) {p : PV} {l : List UInt8} (hp : p = pNil ∨ p = .ptr 0 0) (hkne : p = pNil → kids ≠ []) (hsep : sep ≠ [] ∨ kids.length ≤ 1)
  (hl : l.length + (wrL sep sep kids).length ≤ 1000000000) :
  CallP Tryz.prog (G q) 63 [.t tk, .t (sv (bs sep)), .ptr 2 0] ([(0, bldR p 1 l)] ++ (rowH eB tyU 1 l ++ [(2, boxB)])) 3 (.t (.tu [])) ([(0, bldR (.ptr 0 0) 3 (l ++ wrL sep sep kids))] ++ (rowH eB tyU 3 (l ++ wrL sep sep kids) ++ [(2, boxB)])) 4 := by
 obtain ⟨m, hm⟩ : ∃ m, m = l ++ wrL sep sep kids := ⟨_, rfl⟩
 rw [← hm]
 have hml : m.length ≤ 1000000000 := by rw [hm, List.length_append]; exact hl
 have hlk : lenslM (.t tk) = some (.t (iv (kids.length : Int))) := hk.len
 refine k_write_1.callP rfl ?_
 unfold M_desc_write_1
 refine mc_seq_runs ctx00 ?_
 simp -implicitDefEqProofs [hlk]
 refine mc_block ?_
 refine mc_while (SKw tk sep kids.length) (fun a => kids.length - a.j) (OkKw kids sep m p) ⟨0, p, l⟩ (fun _ => rfl) ⟨Nat.zero_le _, hp, fun h => ⟨rfl, h⟩, by rw [rest_zero, hm]⟩ ?_ rfl ?_
 ·refine sub_bld (k := 1) rfl hp ((RowAt.head eB tyU [(2, boxB)] 1 l).cons (by omega)) (by omega) (by omega) (by omega) (by omega) ?_ ?_
  ·intro x hx
   simp only [List.mem_singleton] at hx
   subst hx
   refine ⟨?_, by show 2 < 4; omega, by show 2 ≠ 3; omega, by show 2 ≠ 1; omega, rfl, by show 2 ≠ 0; omega⟩
   cases l <;> rfl
  ·simp -implicitDefEqProofs [ren, under]
 rintro ⟨j, pj, A⟩ ⟨hj, hpj, hp0, heq⟩
 simp only at hj hpj hp0 heq
 obtain ⟨H0, hH0⟩ : ∃ H0, H0 = [(0, bldR pj 3 A)] ++ (rowH eB tyU 3 A ++ [(2, boxB)]) := ⟨_, rfl⟩
 have l00 : Abs.look H0 0 = some (bldR pj 3 A) := by rw [hH0]; rfl
 have l02 : Abs.look H0 2 = some boxB := by rw [hH0]; cases A <;> rfl
 have r0 : RowAt eB tyU H0 3 A := by rw [hH0]; exact (RowAt.head eB tyU [(2, boxB)] 3 A).cons (by omega)
 have hS : SKw tk sep kids.length ⟨j, pj, A⟩ = ⟨[(9, .t (iv (j : Int))), (8, .t (iv (kids.length : Int))), (7, .t tk), (1, .t (sv (bs sep))), (2, .ptr 2 0)], H0, 4, 23⟩ := by rw [hH0]; rfl
 rw [hS]
 by_cases hlt : j < kids.length
 ·obtain ⟨x, hx⟩ : ∃ x, kids[j]? = some x := ⟨_, List.getElem?_eq_getElem hlt⟩
  obtain ⟨kp, ci, h1, h2, h3⟩ := kid_at hk hx
  obtain ⟨hwx, hwr⟩ := hw x (List.mem_of_getElem? hx)
  have hlt' : (j : Int) < (kids.length : Int) := by omega
  obtain ⟨j1, hj1⟩ : ∃ j1, j1 = j + 1 := ⟨_, rfl⟩
  have ej : IntKind.i64.wrap ((j : Int) + 1) = (j1 : Int) := wrap_nat (by omega) (by omega)
  have hlen : (A ++ stillW sep sep kids j).length ≤ 1000000000 := by rw [heq]; exact hml
  rw [rest_step sep sep kids hx] at heq hlen
  rw [← hj1] at heq hlen
  simp only [List.length_append] at hlen
  obtain ⟨ca, cb, cc, cd, rfl⟩ : ∃ ca cb cc cd, ci = [ca, cb, cc, cd] := by
   cases x with
   | mk op name path ks =>
    obtain ⟨tp', tk', rfl, _, _⟩ := h3.parts
    exact ⟨_, _, _, _, rfl⟩
  obtain ⟨H1, hH1⟩ : ∃ H1, H1 = ((4, .cells 25 [.t ca, .t cb, .t cc, .t cd]) :: H0 : Heap) := ⟨_, rfl⟩
  have st := st_new H0 ca cb cc cd
  rw [← hH1] at st
  have l10 : Abs.look H1 0 = some (bldR pj 3 A) := by rw [hH1, look_cons, if_neg (by omega)]; exact l00
  have l12 : Abs.look H1 2 = some boxB := by rw [hH1, look_cons, if_neg (by omega)]; exact l02
  have r1 : RowAt eB tyU H1 3 A := by rw [hH1]; exact r0.cons (by omega)
  have l14 : Abs.look H1 4 = some (.cells 25 [.t ca, .t cb, .t cc, .t cd]) := by rw [hH1, look_cons, if_pos rfl]
  have b1 := ld_box l12
  have g1 := ld_agg l14
  unfold glueW at heq hlen
  by_cases h0 : j = 0
  ·rw [if_pos h0] at heq hlen
   have h0' : ¬ (0 : Int) < (j : Int) := by omega
   have h0n : ¬ 0 < j := by omega
   obtain ⟨m1, hm1⟩ : ∃ m1, m1 = A ++ wrD x := ⟨_, rfl⟩
   rw [List.nil_append, ← List.append_assoc, ← hm1] at heq
   obtain ⟨H2, hH2⟩ : ∃ H2, H2 = wsH H1 0 3 5 A m1 := ⟨_, rfl⟩
   have c37 := hwx.at_ hwr h3 (H := H1) (NX := 5) (b := 0) (g := 3) (p := pj) (l := A) (by omega) l10 hpj r1 (by omega) (by omega) (by omega)
   rw [← hm1, ← hH2] at c37
   obtain ⟨t37, ht37⟩ : ∃ t, t = hOne [.ptr 0 0, .t (.ag [ca, cb, cc, cd])] H1 5 (.t (.tu []), H2, 6) := ⟨_, rfl⟩
   have C : Ctx Tryz.prog (G q) (orh [] [(37, t37)]) := TblOK.nil.ctxH (HTblOK.cons (by rw [ht37]; exact hOne_ok c37 (by rw [hH2]; exact ws_fresh (by omega))) .nil) mixed
   have e37 : t37 [.ptr 0 0, .t (.ag [ca, cb, cc, cd])] H1 5 = some (.t (.tu []), H2, 6) := by rw [ht37]; exact hOne_eq _ _ _ _
   refine mc_runs C ?_
   simp -implicitDefEqProofs [hlt, hlt', h0', h0n, h1, h2, st, b1, g1, e37, ej]
   have l20 : Abs.look H2 0 = some (bldR (.ptr 0 0) 5 m1) := by rw [hH2]; exact ws_at0 l10 (by omega) (.inr (by omega))
   have l22 : Abs.look H2 2 = some boxB := by rw [hH2, ws_other (by omega) (.inr (by omega)) (by omega)]; exact l12
   have r2 : RowAt eB tyU H2 5 m1 := by rw [hH2]; exact ws_row
   refine Abs.Next.mk (⟨j1, .ptr 0 0, m1⟩ : Kw) ⟨⟨by show j1 ≤ _; omega, .inr rfl, fun h => (by cases h), heq⟩, by show kids.length - j1 < kids.length - j; omega⟩ ?_
   refine sub_bld (k := 5) l20 (.inr rfl) r2 (by omega) (by omega) (by omega) (by omega) ?_ ?_
   ·intro y hy
    simp only [List.mem_singleton] at hy
    subst hy
    exact ⟨l22, by show 2 < 4; omega, by show 2 ≠ 3; omega, by show 2 ≠ 5; omega, rfl, by show 2 ≠ 0; omega⟩
   ·simp -implicitDefEqProofs [ren, under]
  ·rw [if_neg h0, show (if j + 1 = kids.length then sep else sep) = sep by split <;> rfl] at heq hlen
   have h0' : (0 : Int) < (j : Int) := by omega
   have h0n : 0 < j := by omega
   have hse : sep ≠ [] := hsep.resolve_right (by omega)
   have hpp : pj = .ptr 0 0 := hpj.resolve_left (fun h => h0 (hp0 h).1)
   subst hpp
   obtain ⟨m0, hm0⟩ : ∃ m0, m0 = A ++ sep := ⟨_, rfl⟩
   obtain ⟨m1, hm1⟩ : ∃ m1, m1 = m0 ++ wrD x := ⟨_, rfl⟩
   have hm0l : m0.length = A.length + sep.length := by rw [hm0, List.length_append]
   rw [← List.append_assoc, ← hm0, ← List.append_assoc, ← hm1] at heq
   obtain ⟨H2, hH2⟩ : ∃ H2, H2 = wsH H1 0 3 5 A m0 := ⟨_, rfl⟩
   have l20 : Abs.look H2 0 = some (bldR (.ptr 0 0) 5 m0) := by rw [hH2]; exact ws_at0 l10 (by omega) (.inr (by omega))
   have l22 : Abs.look H2 2 = some boxB := by rw [hH2, ws_other (by omega) (.inr (by omega)) (by omega)]; exact l12
   have l24 : Abs.look H2 4 = some (.cells 25 [.t ca, .t cb, .t cc, .t cd]) := by rw [hH2, ws_other (by omega) (.inr (by omega)) (by omega)]; exact l14
   have r2 : RowAt eB tyU H2 5 m0 := by rw [hH2]; exact ws_row
   have b2 := ld_box l22
   have g2 := ld_agg l24
   obtain ⟨H3, hH3⟩ : ∃ H3, H3 = wsH H2 0 5 6 m0 m1 := ⟨_, rfl⟩
   have l30 : Abs.look H3 0 = some (bldR (.ptr 0 0) 6 m1) := by rw [hH3]; exact ws_at0 l20 (by omega) (.inr (by omega))
   have l32 : Abs.look H3 2 = some boxB := by rw [hH3, ws_other (by omega) (.inr (by omega)) (by omega)]; exact l22
   have r3 : RowAt eB tyU H3 6 m1 := by rw [hH3]; exact ws_row
   have c64 := ws_call (q := q) (nx := 5) l10 (.inr rfl) r1 hse (by omega)
   rw [← hm0, ← hH2] at c64
   have c37 := hwx.at_ hwr h3 (H := H2) (NX := 6) (b := 0) (g := 5) (p := .ptr 0 0) (l := m0) (by omega) l20 (.inr rfl) r2 (by omega) (by omega) (by omega)
   rw [← hm1, ← hH3] at c37
   obtain ⟨t64, ht64⟩ : ∃ t, t = hOne [.ptr 0 0, .t (sv (bs sep))] H1 5 (.t (.tu [iv (sep.length : Int), .v .nilIface]), H2, 6) := ⟨_, rfl⟩
   obtain ⟨t37, ht37⟩ : ∃ t, t = hOne [.ptr 0 0, .t (.ag [ca, cb, cc, cd])] H2 6 (.t (.tu []), H3, 7) := ⟨_, rfl⟩
   have C : Ctx Tryz.prog (G q) (orh [] [(64, t64), (37, t37)]) := TblOK.nil.ctxH (HTblOK.cons (by rw [ht64]; exact hOne_ok c64 (by rw [hH2]; exact ws_fresh (by omega))) (HTblOK.cons (by rw [ht37]; exact hOne_ok c37 (by rw [hH3]; exact ws_fresh (by omega))) .nil)) mixed
   have e64 : t64 [.ptr 0 0, .t (sv (bs sep))] H1 5 = some (.t (.tu [iv (sep.length : Int), .v .nilIface]), H2, 6) := by rw [ht64]; exact hOne_eq _ _ _ _
   have e37 : t37 [.ptr 0 0, .t (.ag [ca, cb, cc, cd])] H2 6 = some (.t (.tu []), H3, 7) := by rw [ht37]; exact hOne_eq _ _ _ _
   refine mc_runs C ?_
   simp -implicitDefEqProofs [hlt, hlt', h0', h0n, h1, h2, st, b1, e64, b2, g2, e37, ej]
   refine Abs.Next.mk (⟨j1, .ptr 0 0, m1⟩ : Kw) ⟨⟨by show j1 ≤ _; omega, .inr rfl, fun h => (by cases h), heq⟩, by show kids.length - j1 < kids.length - j; omega⟩ ?_
   refine sub_bld (k := 6) l30 (.inr rfl) r3 (by omega) (by omega) (by omega) (by omega) ?_ ?_
   ·intro y hy
    simp only [List.mem_singleton] at hy
    subst hy
    exact ⟨l32, by show 2 < 4; omega, by show 2 ≠ 3; omega, by show 2 ≠ 6; omega, rfl, by show 2 ≠ 0; omega⟩
   ·simp -implicitDefEqProofs [ren, under]
 ·have hje : j = kids.length := by omega
  have hlt' : ¬ (j : Int) < (kids.length : Int) := by omega
  rw [hje, rest_end, List.append_nil] at heq
  subst heq
  have hpp : pj = .ptr 0 0 := by
   rcases hpj with h | h
   ·obtain ⟨h1, h2⟩ := hp0 h
    exact absurd (List.eq_nil_of_length_eq_zero (by omega)) (hkne h2)
   ·exact h
  subst hpp
  refine mc_runs ctx00 ?_
  simp -implicitDefEqProofs [hlt, hlt']
  exact ⟨.inl rfl, ⟨[], H0, 4, 23⟩, [], sub_env (by simp -implicitDefEqProofs), rfl, rfl, hH0, rfl⟩
theorem IsDs.length : ∀ {l : List Ds} {c : List T}, Abs.IsDs l c → c.length = l.length * 4
 | [], c, h => by simp only [Abs.IsDs] at h; subst h; rfl
 | d :: l, c, h => by
  simp only [Abs.IsDs] at h
  obtain ⟨c1, c2, rfl, h1, h2⟩ := h
  have e1 : c1.length = 4 := h1.len
  rw [List.length_append, e1, IsDs.length h2, List.length_cons]; omega
theorem IsDs.cut : ∀ (n : Nat) {l : List Ds} {c : List T}, Abs.IsDs l c → Abs.IsDs (l.take n) (c.take (n * 4)) ∧ Abs.IsDs (l.drop n) (c.drop (n * 4))
 | 0, l, c, h => by simpa [Abs.IsDs] using h
 | n + 1, [], c, h => by simp only [Abs.IsDs] at h; subst h; simp [Abs.IsDs]
 | n + 1, d :: l, c, h => by
  simp only [Abs.IsDs] at h
  obtain ⟨c1, c2, rfl, h1, h2⟩ := h
  have e1 : c1.length = 4 := h1.len
  obtain ⟨i1, i2⟩ := IsDs.cut n h2
  rw [show (n + 1) * 4 = c1.length + n * 4 by omega, List.take_length_add_append, List.drop_length_add_append, List.take_succ_cons, List.drop_succ_cons]
  exact ⟨by simp only [Abs.IsDs]; exact ⟨c1, _, rfl, h1, i1⟩, i2⟩
theorem IsK.cut {t : T} {l : List Ds} (h : IsK t l) (hl : l ≠ []) {n : Nat} (hn : n ≤ l.length) :
  ∃ t1 t2, sliceM 4 (.t t) none (some (.t (iv (n : Int)))) = some (.t t1) ∧ sliceM 4 (.t t) (some (.t (iv (n : Int)))) none = some (.t t2) ∧ IsK t1 (l.take n) ∧ IsK t2 (l.drop n) := by
 rcases h with ⟨_, h⟩ | ⟨c, rfl, h⟩
 ·exact absurd h hl
 ·obtain ⟨i1, i2⟩ := IsDs.cut n h
  have hcl := IsDs.length h
  refine ⟨.sl n (c.take (n * 4)), .sl (l.length - n) (c.drop (n * 4)), ?_, ?_, .inr ⟨_, by rw [List.length_take, Nat.min_eq_left hn], i1⟩, .inr ⟨_, by rw [List.length_drop], i2⟩⟩
  ·have e : boundV (some (PV.t (iv (n : Int)))) l.length = some n := by simp [boundV]
   have e0 : boundV none 0 = some 0 := rfl
   simp only [sliceM, e, e0]
   rw [if_pos ⟨Nat.zero_le _, hn⟩]
   simp
  ·have e : boundV (some (PV.t (iv (n : Int)))) 0 = some n := by simp [boundV]
   have e0 : boundV none l.length = some l.length := rfl
   simp only [sliceM, e, e0]
   rw [if_pos ⟨hn, Nat.le_refl _⟩, List.take_of_length_le (by rw [List.length_drop, hcl, ← Nat.sub_mul]; exact Nat.le_refl _)]
theorem wrL_cut (sep last : List UInt8) : ∀ {kids : List Ds}, 2 ≤ kids.length → wrL sep last kids = wrL sep sep (kids.take (kids.length - 1)) ++ (last ++ wrL [] [] (kids.drop (kids.length - 1)))
 | [], h => by simp at h
 | [_], h => by simp at h
 | [a, b], _ => by simp [wrL, sepOf]
 | a :: b :: c :: r, _ => by
  have ih := wrL_cut sep last (kids := b :: c :: r) (by simp)
  have e : (a :: b :: c :: r).length - 1 = (b :: c :: r).length - 1 + 1 := by simp
  rw [e, List.take_succ_cons, List.drop_succ_cons, wrL, ih, wrL]
  have e2 : (b :: c :: r).length - 1 = (c :: r).length - 1 + 1 := by simp
  rw [show sepOf sep last (b :: c :: r) = sep from rfl, e2, List.take_succ_cons]
  have : sepOf sep sep (b :: List.take ((c :: r).length - 1) (c :: r)) = sep := by
   cases List.take ((c :: r).length - 1) (c :: r) <;> rfl
  rw [this]
  simp
theorem kids_at {kids : List Ds} (hw : ∀ k ∈ kids, WrOK q k ∧ Wr k) (hn : kids.length ≤ 1000) {tk : T} (hk : IsK tk kids) (sep : List UInt8) (hsep : sep ≠ [] ∨ kids.length ≤ 1)
  {H : Heap} {NX g : Nat} {p : PV} {l : List UInt8} (hkne : p = pNil → kids ≠ []) (hm : l ++ wrL sep sep kids ≠ []) (hl : l.length + (wrL sep sep kids).length ≤ 1000000000) (h0 : Abs.look H 0 = some (bldR p g l)) (hp : p = pNil ∨ p = .ptr 0 0) (h2 : Abs.look H 2 = some boxB) (hg : RowAt eB tyU H g l) (hgn : g < NX) (hg0 : g ≠ 0) (hg2 : g ≠ 2) (hnx : 2 < NX) :
  CallP Tryz.prog (G q) 63 [.t tk, .t (sv (bs sep)), .ptr 2 0] H NX (.t (.tu [])) (wsH H 0 g NX l (l ++ wrL sep sep kids)) (NX + 1) := by
 have hpu : under 3 p = true := by rcases hp with rfl | rfl <;> rfl
 have hpr : ren (fun x => if x = 1 then g else x) p = p := by rcases hp with rfl | rfl <;> rfl
 have := W.lift (kids_ok hw hn hk sep hp hkne hsep hl) (H := H) (NX := NX) (fun x => if x = 1 then g else x) (fun x hx => by show (if x = 1 then g else x) < NX; split <;> omega)
  (fun x y hx hy e => by
   have e : (if x = 1 then g else x) = (if y = 1 then g else y) := e
   split at e <;> split at e <;> omega) (by omega) hm hpu (by rw [hpr]; exact h0) hg (fun x hx => by
   simp only [List.mem_singleton] at hx
   subst hx
   exact ⟨h2, by show 2 ≤ 2; omega, by show 2 < 3; omega, rfl⟩) (fun x hx => by
   simp only [List.mem_singleton] at hx
   subst hx
   exact ⟨rfl, rfl, rfl⟩) rfl
 exact this
theorem ctx_ws {H : Heap} {nx b g : Nat} {p : PV} {l s : List UInt8} (h : Abs.look H b = some (bldR p g l)) (hp : p = .t (.v (.pointer none)) ∨ p = .ptr b 0) (hg : RowAt eB tyU H g l) (hs : s ≠ []) (hlen : l.length + s.length ≤ 140737488355328) (hb : b < nx) :
  HOK Tryz.prog (G q) 64 (hOne [.ptr b 0, .t (sv (bs s))] H nx (.t (.tu [iv (s.length : Int), .v .nilIface]), wsH H b g nx l (l ++ s), nx + 1)) := hOne_ok (ws_call h hp hg hs hlen) (ws_fresh hb)
theorem ctx_kids {kids : List Ds} (hw : ∀ k ∈ kids, WrOK q k ∧ Wr k) (hn : kids.length ≤ 1000) {tk : T} (hk : IsK tk kids) (sep : List UInt8) (hsep : sep ≠ [] ∨ kids.length ≤ 1)
  {H : Heap} {NX g : Nat} {p : PV} {l : List UInt8} (hkne : p = pNil → kids ≠ []) (hm : l ++ wrL sep sep kids ≠ []) (hl : l.length + (wrL sep sep kids).length ≤ 1000000000) (h0 : Abs.look H 0 = some (bldR p g l)) (hp : p = pNil ∨ p = .ptr 0 0) (h2 : Abs.look H 2 = some boxB) (hg : RowAt eB tyU H g l) (hgn : g < NX) (hg0 : g ≠ 0) (hg2 : g ≠ 2) (hnx : 2 < NX) :
  HOK Tryz.prog (G q) 63 (hOne [.t tk, .t (sv (bs sep)), .ptr 2 0] H NX (.t (.tu []), wsH H 0 g NX l (l ++ wrL sep sep kids), NX + 1)) := hOne_ok (kids_at hw hn hk sep hsep hkne hm hl h0 hp h2 hg hgn hg0 hg2 hnx) (ws_fresh (by omega))
structure WS (H : Heap) (g : Nat) (p : PV) (l : List UInt8) (op : Int) (name : ByteArray) (tp tk : T) : Prop where
 r0 : Abs.look H 0 = some (bldR p g l)
 r2 : Abs.look H 2 = some boxB
 r3 : Abs.look H 3 = some (dRow op name tp tk)
 rg : RowAt eB tyU H g l
 hp : p = pNil ∨ p = .ptr 0 0
section
variable {H : Heap} {g nx : Nat} {p : PV} {l m : List UInt8} {op : Int} {name : ByteArray} {tp tk : T}
theorem WS.next (h : WS H g p l op name tp tk) (g0 : g ≠ 0) (g2 : g ≠ 2) (g3 : g ≠ 3) (hn : 3 < nx) : WS (wsH H 0 g nx l m) nx (.ptr 0 0) m op name tp tk where
 r0 := ws_at0 h.r0 (by omega) (.inr (Ne.symm g0))
 r2 := (ws_other (by omega) (.inr (Ne.symm g2)) (by omega)).trans h.r2
 r3 := (ws_other (by omega) (.inr (Ne.symm g3)) (by omega)).trans h.r3
 rg := ws_row
 hp := .inr rfl
theorem WS.ld (h : WS H g p l op name tp tk) : loadM false 1 H (.ptr 2 0) = some (.ptr 0 0) := ld_box h.r2
theorem WS.d0 (h : WS H g p l op name tp tk) : loadM false 1 H (.ptr 3 0) = some (.t (iv op)) := by simp only [loadM, h.r3]; rfl
theorem WS.d1 (h : WS H g p l op name tp tk) : loadM false 1 H (.ptr 3 1) = some (.t (sv name)) := by simp only [loadM, h.r3]; rfl
theorem WS.d2 (h : WS H g p l op name tp tk) : loadM false 1 H (.ptr 3 2) = some (.t tp) := by simp only [loadM, h.r3]; rfl
theorem WS.d3 (h : WS H g p l op name tp tk) : loadM false 1 H (.ptr 3 3) = some (.t tk) := by simp only [loadM, h.r3]; rfl
theorem WS.fin (h : WS H g (.ptr 0 0) l op name tp tk) (g0 : g ≠ 0) {env : List (Nat × PV)} {e : Exit} (he : e = .normal ∨ e = .ret) (n : Nat) :
  EndsP Tryz.prog (G q) 2 [] (fun r0 H0 nx0 => r0 = PV.t (T.tu []) ∧ H0 = (0, bldR (.ptr 0 0) 2 l) :: rowH eB tyU 2 l ∧ nx0 = 3) e ⟨env, H, nx, n⟩ :=
 ⟨he, ⟨[], [(0, bldR (.ptr 0 0) 2 l)] ++ (rowH eB tyU 2 l ++ []), 3, n⟩, [], sub_bld h.r0 (.inr rfl) h.rg (by omega) (by omega) (by omega) g0 (fun x hx => (by cases hx)) (fun x hx => (by cases hx)), rfl, rfl, by rw [List.append_nil]; rfl, rfl⟩
theorem WS.write (h : WS H g p l op name tp tk) (g0 : g ≠ 0) (g2 : g ≠ 2) (g3 : g ≠ 3) (hn : 3 < nx) {s : List UInt8} (hs : s ≠ []) (hlen : l.length + s.length ≤ 2000000000) :
  ∃ t H2, WS H2 nx (.ptr 0 0) (l ++ s) op name tp tk ∧ HOK Tryz.prog (G q) 64 t ∧ t [.ptr 0 0, .t (sv (bs s))] H nx = some (.t (.tu [iv (s.length : Int), .v .nilIface]), H2, nx + 1) :=
 ⟨_, _, h.next g0 g2 g3 hn, ctx_ws h.r0 h.hp h.rg hs (by omega) (by omega), hOne_eq _ _ _ _⟩
theorem WS.kids {kids : List Ds} (h : WS H g p l op name tp tk) (g0 : g ≠ 0) (g2 : g ≠ 2) (g3 : g ≠ 3) (hn : 3 < nx) (hgn : g < nx) (hw : ∀ k ∈ kids, WrOK q k ∧ Wr k) (hkl : kids.length ≤ 1000) {ts : T} (hk : IsK ts kids) (sep : List UInt8) (hsep : sep ≠ [] ∨ kids.length ≤ 1)
  (hkne : p = pNil → kids ≠ []) (hm : l ++ wrL sep sep kids ≠ []) (hl : l.length + (wrL sep sep kids).length ≤ 1000000000) :
  ∃ t H2, WS H2 nx (.ptr 0 0) (l ++ wrL sep sep kids) op name tp tk ∧ HOK Tryz.prog (G q) 63 t ∧ t [.t ts, .t (sv (bs sep)), .ptr 2 0] H nx = some (.t (.tu []), H2, nx + 1) :=
 ⟨_, _, h.next g0 g2 g3 hn, ctx_kids hw hkl hk sep hsep hkne hm hl h.r0 h.hp h.r2 h.rg hgn g0 g2 (by omega), hOne_eq _ _ _ _⟩
end
end Go.Proofs.YtjkkgbdoeaihmaaGreatDoor
