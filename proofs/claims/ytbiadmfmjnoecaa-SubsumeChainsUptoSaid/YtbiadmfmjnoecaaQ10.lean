/-
  walk.visit of the document: what a traversal does to its numbers and its order.
  Plain: in a traversal each node but the first one has a parent before it; the rows beside a row that grows.
-/
import Derived.Test.YtbiadmfmjnoecaaQ9
import Derived.Test.YtbiadmfmjnoecaaQ8
namespace Go.Proofs.Ytbiadmfmjnoecaa
set_option linter.unusedSimpArgs false
set_option linter.unusedVariables false
open Go Go.Abs
abbrev VS := List Int × List Int
def nAt (num : List Int) (i : Nat) : Int := num.getD i 0
def vStep (v : Nat → VS → VS) (st : VS) (a : Arc) : VS := if nAt st.1 a.to.toNat < 0 then v a.to.toNat st else st
def arcsAt (l : List Nd) (n : Nat) : List Arc := match l[n]? with
 | some x => sortA x.arcs
 | none => []
def visF (l : List Nd) : Nat → Nat → VS → VS
 | 0, _, st => st
 | k + 1, n, st => (arcsAt l n).foldl (vStep (visF l k)) (st.1.set n (st.2.length : Int), st.2 ++ [(n : Int)])
def negs (num : List Int) : Nat := num.countP fun x => decide (x < 0)
theorem nAt_lt {num : List Int} {n : Nat} (h : nAt num n < 0) : n < num.length := by
 apply Classical.byContradiction
 intro hn
 unfold nAt at h
 rw [List.getD_eq_getElem?_getD, List.getElem?_eq_none (by omega)] at h
 simp at h
theorem negs_set : ∀ {num : List Int} {n : Nat} {v : Int}, nAt num n < 0 → 0 ≤ v → negs (num.set n v) + 1 = negs num
 | [], n, v, h, _ => by have := nAt_lt h; simp at this
 | x :: r, 0, v, h, hv => by
  have h : x < 0 := h
  have hv' : ¬ v < 0 := by omega
  simp [negs, List.countP_cons, h, hv']
 | x :: r, n + 1, v, h, hv => by
  have h : nAt r n < 0 := by simpa [nAt] using h
  have := negs_set h hv
  simp only [negs, List.set_cons_succ, List.countP_cons] at this ⊢
  omega
structure VI (l : List Nd) (st : VS) : Prop where
 len : st.1.length = l.length
 sum : st.2.length + negs st.1 = l.length
theorem vi_start {l : List Nd} {st : VS} {n : Nat} (h : VI l st) (hn : nAt st.1 n < 0) : VI l (st.1.set n (st.2.length : Int), st.2 ++ [(n : Int)]) ∧ negs (st.1.set n (st.2.length : Int)) + 1 = negs st.1 := by
 have := negs_set hn (v := (st.2.length : Int)) (by omega)
 refine ⟨⟨by simp [h.len], ?_⟩, this⟩
 have := h.sum
 simp only [List.length_append, List.length_cons, List.length_nil]
 omega
theorem vi_fold {l : List Nd} {v : Nat → VS → VS} (hv : ∀ n st, VI l st → nAt st.1 n < 0 → VI l (v n st) ∧ negs (v n st).1 ≤ negs st.1) : ∀ (ar : List Arc) (st : VS), VI l st → VI l (ar.foldl (vStep v) st) ∧ negs (ar.foldl (vStep v) st).1 ≤ negs st.1
 | [], st, h => ⟨h, Nat.le_refl _⟩
 | a :: ar, st, h => by
  rw [List.foldl_cons]
  by_cases hc : nAt st.1 a.to.toNat < 0
  ·have e : vStep v st a = v a.to.toNat st := if_pos hc
   rw [e]
   obtain ⟨h1, h2⟩ := hv _ st h hc
   obtain ⟨h3, h4⟩ := vi_fold hv ar _ h1
   exact ⟨h3, by omega⟩
  ·have e : vStep v st a = st := if_neg hc
   rw [e]
   exact vi_fold hv ar st h
theorem vi_vis {l : List Nd} : ∀ (k n : Nat) (st : VS), VI l st → nAt st.1 n < 0 → VI l (visF l k n st) ∧ negs (visF l k n st).1 ≤ negs st.1
 | 0, _, st, h, _ => ⟨h, Nat.le_refl _⟩
 | k + 1, n, st, h, hn => by
  obtain ⟨h1, h2⟩ := vi_start h hn
  obtain ⟨h3, h4⟩ := vi_fold (vi_vis k) (arcsAt l n) _ h1
  refine ⟨h3, ?_⟩
  have h4 : negs ((arcsAt l n).foldl (vStep (visF l k)) (st.1.set n (st.2.length : Int), st.2 ++ [(n : Int)])).1 ≤ negs (st.1.set n (st.2.length : Int)) := h4
  show negs ((arcsAt l n).foldl (vStep (visF l k)) (st.1.set n (st.2.length : Int), st.2 ++ [(n : Int)])).1 ≤ _
  omega
theorem frz_ptr (H : Heap) (F : List Nat) (b o : Nat) : frzP H F (.ptr b o) = .ptr b o := rfl
theorem mem_rem {α : Type} {b : Nat} {q : Nat × α} : ∀ {H : List (Nat × α)}, q ∈ rem H b → q ∈ H
 | [], h => by cases h
 | (k, x) :: r, h => by
  simp only [rem] at h
  split at h
  ·exact List.mem_cons_of_mem _ (mem_rem h)
  ·rcases List.mem_cons.1 h with h | h
   ·rw [h]; exact List.mem_cons_self
   ·exact List.mem_cons_of_mem _ (mem_rem h)
theorem rowP_len {α : Type} (e : Enc α) (b : Nat) {l m : List α} (h : l.length = m.length) : rowP e b l = rowP e b m := by
 cases l with
 | nil => cases m with
  | nil => rfl
  | cons _ _ => simp at h
 | cons x l => cases m with
  | nil => simp at h
  | cons y m => simp only [rowP, h]
theorem Walk.ld0 {t : T} {a b c : Nat} {num ord : List Int} {H : Heap} (w : Walk t a b c num ord H) : loadM false 1 H (.ptr a 0) = some (.t t) := by simp [loadM, w.walk, walkR]
theorem Walk.ld1 {t : T} {a b c : Nat} {num ord : List Int} {H : Heap} (w : Walk t a b c num ord H) : loadM false 1 H (.ptr a 1) = some (rowP eInt b num) := by simp [loadM, w.walk, walkR]
theorem Walk.ld2 {t : T} {a b c : Nat} {num ord : List Int} {H : Heap} (w : Walk t a b c num ord H) : loadM false 1 H (.ptr a 2) = some (rowP eInt c ord) := by simp [loadM, w.walk, walkR]
theorem Walk.set {t : T} {a b c : Nat} {num ord : List Int} {H : Heap} (w : Walk t a b c num ord H) (n : Nat) (v : Int) : Walk t a b c (num.set n v) ord (upd H b (rowOf eInt 3 (num.set n v))) where
 walk := by
  rw [look_upd, if_neg w.ab, w.walk]
  simp only [walkR, rowP_len eInt b (show num.length = (num.set n v).length by simp)]
 num := by
  rcases w.num with h | h
  ·left; simp [h]
  ·right; rw [look_upd, if_pos rfl, h]; rfl
 ord := w.ord.imp id fun h => by rw [look_upd, if_neg (Ne.symm w.bc)]; exact h
 ab := w.ab
 ac := w.ac
 bc := w.bc
theorem Walk.keep {t : T} {a b c : Nat} {num ord : List Int} {H H' : Heap} (w : Walk t a b c num ord H) (h : ∀ x, x = a ∨ x = b ∨ x = c → Abs.look H' x = Abs.look H x) : Walk t a b c num ord H' :=
 ⟨by rw [h a (.inl rfl)]; exact w.walk, w.num.imp id fun q => by rw [h b (.inr (.inl rfl))]; exact q, w.ord.imp id fun q => by rw [h c (.inr (.inr rfl))]; exact q, w.ab, w.ac, w.bc⟩
theorem Walk.put {t : T} {a b c k : Nat} {num ord ord' : List Int} {H H2 : Heap} (w : Walk t a b c num ord H) (ha : Abs.look H2 a = Abs.look H a) (hb : Abs.look H2 b = Abs.look H b) (hr : RowAt eInt 3 H2 k ord') (hk : a ≠ k) (hk' : b ≠ k) :
  storeM 1 H2 (.ptr a 2) (rowP eInt k ord') = some (upd H2 a (walkR t b k num ord')) ∧ Walk t a b k num ord' (upd H2 a (walkR t b k num ord')) := by
 have h2 : Abs.look H2 a = some (walkR t b c num ord) := ha.trans w.walk
 refine ⟨?_, ⟨by rw [look_upd, if_pos rfl, h2]; rfl, w.num.imp id fun q => by rw [look_upd, if_neg (Ne.symm w.ab), hb]; exact q, hr.imp id fun q => by rw [look_upd, if_neg (Ne.symm hk)]; exact q, w.ab, hk, hk'⟩⟩
 simp only [storeM, cells_rowP, h2, walkR]
 rfl
theorem Walk.frz {t : T} {a b c k : Nat} {num ord : List Int} {H : Heap} (w : Walk t a b c num ord H) (ha : a ≠ k) (hb : b ≠ k) (hc : c ≠ k) : Walk t a b c num ord ((remAll H [k]).map fun q => (q.1, frzRow H [k] q.2)) where
 walk := by
  have h1 : Abs.look (remAll H [k]) a = some (walkR t b c num ord) := by
   show Abs.look (rem H k) a = _
   rw [look_rem, if_neg ha, w.walk]
  rw [look_map, h1]
  simp only [walkR, Option.map_some, frzRow, List.map_cons, List.map_nil, frz_t, frz_other w.num hb, frz_other w.ord hc]
 num := RowAt.frz w.num hb
 ord := RowAt.frz w.ord hc
 ab := w.ab
 ac := w.ac
 bc := w.bc
theorem Walk.app {t : T} {a b c : Nat} {num ord : List Int} {H : Heap} (w : Walk t a b c num ord H) (l : List Arc) (k : Nat) (ha : a ≠ k) (hb : b ≠ k) (hc : c ≠ k) : Walk t a b c num ord (rowH eArc 81 k l ++ H) := by
 refine w.keep fun x hx => ?_
 cases l with
 | nil => rfl
 | cons y r =>
  simp only [rowH, List.cons_append, List.nil_append, look_cons]
  rw [if_neg]
  rcases hx with rfl | rfl | rfl
  ·exact Ne.symm ha
  ·exact Ne.symm hb
  ·exact Ne.symm hc
def visJ (l : List Nd) (k n : Nat) (st : VS) (j : Nat) : VS := ((arcsAt l n).take j).foldl (vStep (visF l k)) (st.1.set n (st.2.length : Int), st.2 ++ [(n : Int)])
def S91 (t tr : T) (l : List Nd) (k n : Nat) (st : VS) (j : Nat) : AState := ⟨[(5, .t (iv (j : Int))), (4, .t tr), (1, .t (iv (n : Int))), (0, .ptr 0 0)], walkH t 0 1 3 (visJ l k n st j).1 (visJ l k n st j).2 [], 4, 62⟩
noncomputable def hw5 : HTbl := [(92, hSorted)]
theorem cth5 : Ctx Try.prog G (orh [] hw5) := TblOK.nil.ctxH (HTblOK.cons hSorted_ok .nil) mixed
theorem visit_call {t : T} {l : List Nd} (ht : IsS eNd t l) (hl : l.length ≤ 100000) (ha : ∀ x ∈ l, x.arcs.length ≤ 1000000) (hto : ∀ x ∈ l, ∀ a ∈ x.arcs, 0 ≤ a.to ∧ a.to < (l.length : Int)) : ∀ (k n : Nat) (num ord : List Int), VI l (num, ord) → nAt num n < 0 → negs num ≤ k →
  CallP Try.prog G 91 [.ptr 0 0, .t (iv (n : Int))] (walkH t 0 1 2 num ord []) 3 (.t (.tu [])) (walkH t 0 1 3 (visF l k n (num, ord)).1 (visF l k n (num, ord)).2 []) 4
 | 0, n, num, ord, hi, hn, hk => by have := (vi_start hi hn).2; simp only at this; omega
 | k + 1, n, num, ord, hi, hn, hk => by
  have IH := visit_call ht hl ha hto k
  obtain ⟨hi1, hng⟩ := vi_start hi hn
  have hlen := hi.len
  have hsum := hi.sum
  simp only at hlen hsum hi1 hng
  have hnl : n < num.length := nAt_lt hn
  obtain ⟨x, hx⟩ : ∃ x, l[n]? = some x := ⟨_, List.getElem?_eq_getElem (by omega)⟩
  have hxm := List.mem_of_getElem? hx
  have hgn : num[n]? = some num[n] := List.getElem?_eq_getElem hnl
  have hs : arcsAt l n = sortA x.arcs := by simp only [arcsAt, hx]
  have hsl : (sortA x.arcs).length = x.arcs.length := sortA_len _
  have hxa := ha x hxm
  have hz : eInt.z = 1 := rfl
  obtain ⟨H0, hH0⟩ : ∃ H0, H0 = walkH t 0 1 2 num ord [] := ⟨_, rfl⟩
  have w0 : Walk t 0 1 2 num ord H0 := by rw [hH0]; exact Walk.mk' _ _ _ _ (by omega) (by omega) (by omega)
  rw [← hH0]
  refine k_r07_walk_visit.callP rfl ?_
  unfold M_r07_walk_visit
  have w1 := w0.set n (ord.length : Int)
  have st1 := row_store (e := eInt) (ty := 3) (b := 1) (H := H0) (off := 0) (y := (ord.length : Int)) (c := iv (ord.length : Int)) (w0.num.resolve_left (by intro h; rw [h] at hnl; simp at hnl)) hgn (by decide) rfl rfl
  rw [Nat.add_zero, hz, Nat.mul_one] at st1
  obtain ⟨H1, hH1⟩ : ∃ H1, H1 = upd H0 1 (rowOf eInt 3 (num.set n (ord.length : Int))) := ⟨_, rfl⟩
  rw [← hH1] at st1 w1
  have ia := iaddr_rowP (e := eInt) (b := 1) hgn .i64
  rw [hz, Nat.mul_one] at ia
  refine mc_seq_runs cth5 ?_
  simp -implicitDefEqProofs [w0.ld1, w0.ld2, len_rowP, ia, st1]
  have bs : bsliceM 3 1 [.int .i64 0] 1 [(0, .t (iv (n : Int)))] 3 = some (.row 3 0 1 1, .cells 3 ((eInt.enc (n : Int)).map .t)) := rfl
  obtain ⟨b2, H2, n2, ap2, r2, ne2, le2, lk2, ge2⟩ := app_some (e := eInt) (ty := 3) (by' := 8) (nx := 4) (m := [(n : Int)]) (w1.ord.cons (k := 3) (r := .cells 3 ((eInt.enc (n : Int)).map .t)) (by omega)) (src_one (b := 3) (ty := 3) (n : Int) (by simp)) (by simp; omega) (by simp; omega)
  rw [hz] at ap2
  obtain ⟨st2, w2⟩ := w1.put (ha := (lk2 0 (by omega) (by omega)).trans (by rw [look_cons, if_neg (by omega)])) (hb := (lk2 1 (by omega) (by omega)).trans (by rw [look_cons, if_neg (by omega)])) r2 (by omega) (by omega)
  obtain ⟨H3, hH3⟩ : ∃ H3, H3 = upd H2 0 (walkR t 1 b2 (num.set n (ord.length : Int)) (ord ++ [(n : Int)])) := ⟨_, rfl⟩
  rw [← hH3] at st2 w2
  refine mc_seq_runs cth5 ?_
  simp -implicitDefEqProofs [w1.ld2, bs, ap2, st2]
  have in0 := ia_Nd ht hx
  have lp : ∀ c cs, loadM false 1 H3 (.t (.pt (c :: cs))) = some (.t c) := fun _ _ => rfl
  have hso := hSorted_eq x.ok hxa H3 n2
  refine mc_seq_runs cth5 ?_
  simp -implicitDefEqProofs [w2.ld0, in0, lp, hw5, hso]
  refine mc_seq_runs cth5 ?_
  simp -implicitDefEqProofs
  obtain ⟨tr, htr⟩ : ∃ tr, tr = treeS eArc (sortA x.arcs) := ⟨_, rfl⟩
  have hT : IsS eArc tr (sortA x.arcs) := htr ▸ IsS.tree _ _
  have w3 := w2.app (sortA x.arcs) n2 (by omega) (by omega) ne2
  refine mc_block ?_
  refine mc_for (S91 t tr l k n (num, ord)) (sortA x.arcs).length (fun _ => rfl) ?_ rfl ?_ ?_
  ·refine (sub_frz [n2]).trans ?_
   unfold S91 AState.frz
   refine sub_walk (w3.frz (by omega) (by omega) ne2) (by omega) (by omega) (by omega) (by omega) (by omega) (by omega) (fun q hq => by cases hq) ?_
   simp -implicitDefEqProofs [frz_row (RowAt.head eArc 81 H3 n2 (sortA x.arcs)), frz_t, frz_ptr, ren, under, ← htr]
  ·intro j hj
   obtain ⟨a, hax⟩ : ∃ a, (sortA x.arcs)[j]? = some a := ⟨_, List.getElem?_eq_getElem hj⟩
   have ham : a ∈ x.arcs := sortA_mem.1 (List.mem_of_getElem? hax)
   obtain ⟨h0, h1⟩ := hto x hxm a ham
   obtain ⟨m, hm⟩ : ∃ m : Nat, a.to = (m : Int) := ⟨a.to.toNat, by omega⟩
   have hm' : a.to.toNat = m := by omega
   have e1 : IntKind.i64.wrap ((j : Int) + 1) = ((j + 1 : Nat) : Int) := wrap_nat (by omega) (by omega)
   obtain ⟨hij, hnj⟩ := vi_fold (l := l) (vi_vis k) ((arcsAt l n).take j) _ hi1
   have hsucc : visJ l k n (num, ord) (j + 1) = vStep (visF l k) (visJ l k n (num, ord) j) a := by
    unfold visJ
    rw [hs, List.take_add_one, hax]
    simp
   obtain ⟨st, hst⟩ : ∃ st, st = visJ l k n (num, ord) j := ⟨_, rfl⟩
   have hij : VI l st := by rw [hst]; exact hij
   have hnj : negs st.1 ≤ k := by
    have : negs st.1 ≤ negs (num.set n (ord.length : Int)) := by rw [hst]; exact hnj
    omega
   rw [← hst] at hsucc
   have hml : m < st.1.length := by rw [hij.len]; omega
   have hgm : st.1[m]? = some (nAt st.1 m) := by
    unfold nAt
    rw [List.getD_eq_getElem?_getD, List.getElem?_eq_getElem hml]
    rfl
   have ib := ia_Arc hT hax
   rw [hm] at ib
   obtain ⟨Hj, hHj⟩ : ∃ Hj, Hj = walkH t 0 1 3 st.1 st.2 [] := ⟨_, rfl⟩
   have wj : Walk t 0 1 3 st.1 st.2 Hj := by rw [hHj]; exact Walk.mk' _ _ _ _ (by omega) (by omega) (by omega)
   have lq : ∀ c cs, loadM false 1 Hj (.t (.pt (c :: cs))) = some (.t c) := fun _ _ => rfl
   have ic := iaddr_rowP (e := eInt) (b := 1) hgm .i64
   rw [hz, Nat.mul_one] at ic
   have ld := wj.num.load (off := 0) (c := iv (nAt st.1 m)) hgm rfl
   rw [hz, Nat.mul_one, Nat.add_zero] at ld
   by_cases hc : nAt st.1 m < 0
   ·have hv : vStep (visF l k) st a = visF l k m st := by unfold vStep; rw [hm', if_pos hc]
    have cp := walk_lift (IH m st.1 st.2 hij hc hnj) wj (NX := 4) (by omega) (by omega) (by omega)
    have cv : Ctx Try.prog G (orh [] [(91, hOne [.ptr 0 0, .t (iv (m : Int))] Hj 4 (.t (.tu []), walkH t 0 1 4 (visF l k m (st.1, st.2)).1 (visF l k m (st.1, st.2)).2 (rem (rem (rem Hj 0) 1) 3), 4 + 1))]) := by
     refine TblOK.nil.ctxH (HTblOK.cons (hOne_ok cp fun hf b y hb => ?_) .nil) mixed
     rcases mem_walkH (mem_of_look hb) with e | ⟨_, e⟩ | ⟨_, e⟩ | hq
     ·injection e with e _; omega
     ·injection e with e _; omega
     ·injection e with e _; omega
     ·have := mem_rem (mem_rem (mem_rem hq))
      rw [hHj] at this
      rcases mem_walkH this with e | ⟨_, e⟩ | ⟨_, e⟩ | hq
      ·injection e with e _; omega
      ·injection e with e _; omega
      ·injection e with e _; omega
      ·cases hq
    refine mc_runs cv ?_
    unfold S91
    rw [← hst, ← hHj, hsucc, hv]
    simp -implicitDefEqProofs [hj, hT.len, wj.ld1, ib, lq, ic, ld, hc, hOne_eq, e1]
    exact sub_walk (Walk.mk' _ _ _ _ (by omega) (by omega) (by omega)) (by omega) (by omega) (by omega) (by omega) (by omega) (by omega) (fun q hq => by cases hq) (by simp -implicitDefEqProofs [ren, under])
   ·have hv : vStep (visF l k) st a = st := by unfold vStep; rw [hm', if_neg hc]
    refine mc_runs cth5 ?_
    unfold S91
    rw [← hst, ← hHj, hsucc, hv]
    simp -implicitDefEqProofs [hj, hT.len, wj.ld1, ib, lq, ic, ld, hc, e1]
    exact sub_walk wj (by omega) (by omega) (by omega) (by omega) (by omega) (by omega) (fun q hq => by cases hq) (by simp -implicitDefEqProofs [ren, under])
  ·refine mc_runs cth5 ?_
   simp -implicitDefEqProofs [S91, hT.len]
   have he : visJ l k n (num, ord) (sortA x.arcs).length = visF l (k + 1) n (num, ord) := by
    unfold visJ visF
    rw [hs, List.take_length]
   rw [he]
   exact ⟨.inl rfl, _, [], Sub.refl _, rfl, rfl, rfl, rfl⟩
structure VJ (l : List Nd) (st : VS) : Prop where
 at' : ∀ (j : Nat) (n : Int), st.2[j]? = some n → 0 ≤ n ∧ n < (l.length : Int) ∧ nAt st.1 n.toNat = (j : Int)
 par : ∀ (j : Nat) (n : Int), 0 < j → st.2[j]? = some n → ∃ (i : Nat) (m : Int) (a : Arc), i < j ∧ st.2[i]? = some m ∧ a ∈ arcsAt l m.toNat ∧ a.to = n
def Par (l : List Nd) (st : VS) (n : Nat) : Prop := st.2 = [] ∨ ∃ (i : Nat) (m : Int) (a : Arc), st.2[i]? = some m ∧ a ∈ arcsAt l m.toNat ∧ a.to = (n : Int)
theorem nAt_set {num : List Int} {n m : Nat} {v : Int} (hn : n < num.length) : nAt (num.set n v) m = if m = n then v else nAt num m := by
 unfold nAt
 rw [List.getD_eq_getElem?_getD, List.getD_eq_getElem?_getD, List.getElem?_set]
 by_cases e : n = m
 ·subst e
  simp [hn]
 ·rw [if_neg e, if_neg (Ne.symm e)]
theorem vj_start {l : List Nd} {st : VS} {n : Nat} (hl : st.1.length = l.length) (h : VJ l st) (hn : nAt st.1 n < 0) (hp : Par l st n) : VJ l (st.1.set n (st.2.length : Int), st.2 ++ [(n : Int)]) := by
 have hnl := nAt_lt hn
 refine ⟨fun j m hj => ?_, fun j m h0 hj => ?_⟩
 ·simp only at hj ⊢
  rw [List.getElem?_append] at hj
  split at hj
  ·obtain ⟨h1, h2, h3⟩ := h.at' j m hj
   refine ⟨h1, h2, ?_⟩
   rw [nAt_set hnl, if_neg]
   ·exact h3
   ·intro e
    rw [e] at h3
    omega
  ·rename_i hlt
   have hj0 : j - st.2.length = 0 := by
    have := (List.getElem?_eq_some_iff.1 hj).1
    simp at this
    omega
   rw [hj0] at hj
   have hj' : j = st.2.length := by omega
   simp at hj
   subst hj
   refine ⟨by omega, by omega, ?_⟩
   rw [nAt_set hnl, Int.toNat_natCast, if_pos rfl, hj']
 ·simp only at hj ⊢
  rw [List.getElem?_append] at hj
  split at hj
  ·obtain ⟨i, m', a, h1, h2, h3, h4⟩ := h.par j m h0 hj
   exact ⟨i, m', a, h1, by rw [List.getElem?_append_left (by omega)]; exact h2, h3, h4⟩
  ·rename_i hlt
   have hj0 : j - st.2.length = 0 := by
    have := (List.getElem?_eq_some_iff.1 hj).1
    simp at this
    omega
   rw [hj0] at hj
   simp at hj
   subst hj
   rcases hp with hp | ⟨i, m', a, h1, h2, h3⟩
   ·rw [hp] at hj0
    simp at hj0
    omega
   ·have hi := (List.getElem?_eq_some_iff.1 h1).1
    exact ⟨i, m', a, by omega, by rw [List.getElem?_append_left hi]; exact h1, h2, h3⟩
theorem vj_fold {l : List Nd} {v : Nat → VS → VS} {n : Nat}
  (hv : ∀ m st, VI l st → VJ l st → nAt st.1 m < 0 → Par l st m → VI l (v m st) ∧ VJ l (v m st) ∧ ∃ r, (v m st).2 = st.2 ++ r) :
  ∀ (ar : List Arc) (st : VS), (∀ a ∈ ar, a ∈ arcsAt l n ∧ 0 ≤ a.to) → VI l st → VJ l st → (∃ i : Nat, st.2[i]? = some (n : Int)) → VJ l (ar.foldl (vStep v) st) ∧ ∃ r, (ar.foldl (vStep v) st).2 = st.2 ++ r
 | [], st, _, _, h, _ => ⟨h, [], by simp⟩
 | a :: ar, st, ha, hi, h, hn => by
  rw [List.foldl_cons]
  by_cases hc : nAt st.1 a.to.toNat < 0
  ·have e : vStep v st a = v a.to.toNat st := if_pos hc
   rw [e]
   obtain ⟨i, hi'⟩ := hn
   have h0 := (ha a List.mem_cons_self)
   obtain ⟨h1, h2, r, h3⟩ := hv _ st hi h hc (.inr ⟨i, _, a, hi', by rw [Int.toNat_natCast]; exact h0.1, by omega⟩)
   obtain ⟨h4, r', h5⟩ := vj_fold hv ar _ (fun b hb => ha b (List.mem_cons_of_mem _ hb)) h1 h2 ⟨i, by rw [h3, List.getElem?_append_left (List.getElem?_eq_some_iff.1 hi').1]; exact hi'⟩
   exact ⟨h4, r ++ r', by rw [h5, h3, List.append_assoc]⟩
  ·have e : vStep v st a = st := if_neg hc
   rw [e]
   exact vj_fold hv ar st (fun b hb => ha b (List.mem_cons_of_mem _ hb)) hi h hn
theorem vj_vis {l : List Nd} (hto : ∀ x ∈ l, ∀ a ∈ x.arcs, 0 ≤ a.to ∧ a.to < (l.length : Int)) : ∀ (k n : Nat) (st : VS), VI l st → VJ l st → nAt st.1 n < 0 → Par l st n → VI l (visF l k n st) ∧ VJ l (visF l k n st) ∧ ∃ r, (visF l k n st).2 = st.2 ++ r
 | 0, _, st, hi, h, _, _ => ⟨hi, h, [], by simp [visF]⟩
 | k + 1, n, st, hi, h, hn, hp => by
  have h1 := vj_start hi.len h hn hp
  have hi1 := (vi_start hi hn).1
  obtain ⟨h2, r, h3⟩ := vj_fold (n := n) (vj_vis hto k) (arcsAt l n) _ (fun a ha => ⟨ha, by
   unfold arcsAt at ha
   split at ha
   ·rename_i x hx
    exact (hto x (List.mem_of_getElem? hx) a (sortA_mem.1 ha)).1
   ·cases ha⟩) hi1 h1 ⟨st.2.length, by simp⟩
  refine ⟨(vi_vis (k + 1) n st hi hn).1, h2, [(n : Int)] ++ r, ?_⟩
  show ((arcsAt l n).foldl (vStep (visF l k)) _).2 = _
  rw [h3]
  simp
def renA (num : List Int) (as' : List Arc) : List Arc := as'.map fun a => ⟨a.feat, nAt num a.to.toNat⟩
def gNode (num : List Int) (x : Nd) : Nd := ⟨x.type, treeS eArc (renA num (sortA x.arcs)), renA num (sortA x.arcs), IsS.tree _ _⟩
def noNd : Nd := ⟨0, nilS, [], IsS.nil⟩
def ndAt (l : List Nd) (n : Int) : Nd := (l[n.toNat]?).getD noNd
def start (l : List Nd) : VS := (List.replicate l.length (-1), [])
def visA (l : List Nd) (root : Nat) : VS := visF l l.length root (start l)
def fromL (l : List Nd) (root : Nat) : List Nd := (visA l root).2.map fun n => gNode (visA l root).1 (ndAt l n)
theorem negs_rep (n : Nat) : negs (List.replicate n (-1)) = n := by
 unfold negs
 rw [List.countP_replicate]
 simp
theorem nAt_rep {n i : Nat} (h : i < n) : nAt (List.replicate n (-1)) i = -1 := by
 unfold nAt
 rw [List.getD_eq_getElem?_getD, List.getElem?_eq_getElem (by simpa using h)]
 simp
theorem vi_rep (l : List Nd) : VI l (start l) := ⟨by simp [start], by simp [start, negs_rep]⟩
theorem vj_rep (l : List Nd) : VJ l (start l) := ⟨fun j n h => by simp [start] at h, fun j n _ h => by simp [start] at h⟩
theorem visA_ok {l : List Nd} (hto : ∀ x ∈ l, ∀ a ∈ x.arcs, 0 ≤ a.to ∧ a.to < (l.length : Int)) {root : Nat} (hr : root < l.length) : VI l (visA l root) ∧ VJ l (visA l root) := by
 have hn : nAt (start l).1 root < 0 := by
  show nAt (List.replicate l.length (-1)) root < 0
  rw [nAt_rep hr]
  omega
 obtain ⟨h1, h2, _⟩ := vj_vis hto l.length root (start l) (vi_rep l) (vj_rep l) hn (.inl rfl)
 exact ⟨h1, h2⟩
theorem from_par {l : List Nd} (hto : ∀ x ∈ l, ∀ a ∈ x.arcs, 0 ≤ a.to ∧ a.to < (l.length : Int)) {root : Nat} (hr : root < l.length) {j : Nat} {y : Nd} (h0 : 0 < j) (hy : (fromL l root)[j]? = some y) :
  ∃ (i : Nat) (z : Nd) (a : Arc), i < j ∧ (fromL l root)[i]? = some z ∧ a ∈ z.arcs ∧ a.to = (j : Int) := by
 obtain ⟨_, hj⟩ := visA_ok hto hr
 unfold fromL at hy
 rw [List.getElem?_map] at hy
 obtain ⟨n, hn, _⟩ := map_opt hy
 obtain ⟨i, m, a, h1, h2, h3, h4⟩ := hj.par j n h0 hn
 refine ⟨i, gNode (visA l root).1 (ndAt l m), ⟨a.feat, nAt (visA l root).1 a.to.toNat⟩, h1, by unfold fromL; rw [List.getElem?_map, h2]; rfl, ?_, ?_⟩
 ·show _ ∈ renA _ (sortA (ndAt l m).arcs)
  have : sortA (ndAt l m).arcs = arcsAt l m.toNat := by
   unfold ndAt arcsAt
   cases hx : l[m.toNat]? with
   | none => rfl
   | some x => rfl
  rw [this]
  exact List.mem_map.2 ⟨a, h3, rfl⟩
 ·show nAt (visA l root).1 a.to.toNat = j
  rw [h4]
  exact (hj.at' j n hn).2.2
theorem sub_env {P : Program} {B nx n : Nat} {env env' : List (Nat × PV)} {H : Heap} (he : ∀ q ∈ env', Abs.look env q.1 = some q.2) : Sub P G B ⟨env, H, nx, n⟩ ⟨env', H, nx, n⟩ := by
 intro L a w hi
 refine ⟨L, ⟨hi.heap, hi.nx, hi.base, hi.size, hi.defers, fun k p h => hi.env k p (he _ (mem_of_look h))⟩, ?_, fun _ _ => rfl⟩
 exact ⟨Nat.le_refl _, fun _ _ _ => rfl, fun _ h => h, fun _ h => .inl h, fun g ⟨b, r, h, e⟩ => .inr ⟨b, r, h, e⟩, Shapes.refl w, Outer.refl w⟩
section
variable {α β : Type} {P : Program} {B : Nat}
theorem sub_rowR {e : Enc α} {ty b k nx nx' n : Nat} {l : List α} {env env' : List (Nat × PV)} {H R : Heap} (h : RowAt e ty H k l) (hb : b < nx') (hB : B ≤ b)
  (hR : ∀ q ∈ R, Abs.look H q.1 = some (renRow (fun x => if x = b then k else x) q.2) ∧ q.1 < nx' ∧ q.1 ≠ b ∧ q.1 ≠ k ∧ underRow nx' q.2 = true)
  (he : ∀ q ∈ env', Abs.look env q.1 = some (ren (fun x => if x = b then k else x) q.2) ∧ under nx' q.2 = true) :
  Sub P G B ⟨env, H, nx, n⟩ ⟨env', R ++ rowH e ty b l, nx', n⟩ := by
 refine sub_ren (fun x => if x = b then k else x) rfl (by show B ≤ nx'; omega) (fun x hx => by show (if x = b then k else x) = x; rw [if_neg (by omega)]) he (fun q hq => ?_) (fun q hq q' hq' eqn => ?_)
 ·rcases List.mem_append.1 hq with hq | hq
  ·obtain ⟨h1, h2, h3, h4, h5⟩ := hR q hq
   refine ⟨?_, h2, h5⟩
   show Abs.look H (if q.1 = b then k else q.1) = _
   rw [if_neg h3]
   exact h1
  ·obtain ⟨hn, rfl⟩ := mem_rowH hq
   simp only [if_true, renRow_rowOf, underRow_rowOf]
   exact ⟨h.resolve_left hn, hb, trivial⟩
 ·have key : ∀ q ∈ R ++ rowH e ty b l, q.1 = b ∨ (q.1 ≠ b ∧ q.1 ≠ k) := by
   intro q hq
   rcases List.mem_append.1 hq with hq | hq
   ·obtain ⟨h1, h2, h3, h4, h5⟩ := hR q hq
    exact .inr ⟨h3, h4⟩
   ·obtain ⟨hn, rfl⟩ := mem_rowH hq
    exact .inl rfl
  have e : (if q.1 = b then k else q.1) = (if q'.1 = b then k else q'.1) := eqn
  rcases key q hq with h1 | ⟨h1, h2⟩ <;> rcases key q' hq' with h1' | ⟨h1', h2'⟩
  ·rw [h1, h1']
  ·rw [if_pos h1, if_neg h1'] at e; exact absurd e.symm h2'
  ·rw [if_neg h1, if_pos h1'] at e; exact absurd e h2
  ·rw [if_neg h1, if_neg h1'] at e; exact e
theorem sub_rowR2 {e : Enc α} {e' : Enc β} {ty ty' b c k nx nx' n : Nat} {l : List α} {l' : List β} {env env' : List (Nat × PV)} {H R : Heap} (h : RowAt e ty H k l) (h' : RowAt e' ty' H c l') (hb : b < nx') (hB : B ≤ b) (hc : c < nx') (cb : c ≠ b) (ck : c ≠ k)
  (hR : ∀ q ∈ R, Abs.look H q.1 = some (renRow (fun x => if x = b then k else x) q.2) ∧ q.1 < nx' ∧ q.1 ≠ b ∧ q.1 ≠ k ∧ underRow nx' q.2 = true)
  (he : ∀ q ∈ env', Abs.look env q.1 = some (ren (fun x => if x = b then k else x) q.2) ∧ under nx' q.2 = true) :
  Sub P G B ⟨env, H, nx, n⟩ ⟨env', R ++ (rowH e' ty' c l' ++ rowH e ty b l), nx', n⟩ := by
 rw [← List.append_assoc]
 refine sub_rowR h hb hB (fun q hq => ?_) he
 rcases List.mem_append.1 hq with hq | hq
 ·exact hR q hq
 ·obtain ⟨hn, rfl⟩ := mem_rowH hq
  simp only [renRow_rowOf, underRow_rowOf]
  exact ⟨h'.resolve_left hn, hc, cb, ck, trivial⟩
theorem RowAt.right {e : Enc α} {ty b : Nat} {H R : Heap} {l : List α} (h : RowAt e ty H b l) (hR : ∀ q ∈ R, q.1 ≠ b) : RowAt e ty (R ++ H) b l := by
 induction R with
 | nil => exact h
 | cons q R ih => exact RowAt.cons (ih fun x hx => hR x (List.mem_cons_of_mem _ hx)) (hR q List.mem_cons_self)
end
end Go.Proofs.Ytbiadmfmjnoecaa
