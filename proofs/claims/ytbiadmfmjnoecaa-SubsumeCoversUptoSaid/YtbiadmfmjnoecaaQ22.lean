/-
  graph.Equal of the program: two graphs are equal if their types and arcs are.
  Compare and Maximal of the program and of the document; the law SubsumeMaximal returns true.
  Plain: subsumption is reflexive and transitive; arcs that are sorted.
  Plain: two valid graphs that subsume each other are equal.
  Plain: the codes of a hierarchy are apart.
  The law SubsumeCompares returns true.
  The law SubsumeCovers returns true.
  The walk of the law SubsumeCovers.
  A slice of feature structures that came in. No statement of the program stands here.
  PROVED: SubsumeCoversUptoSaid: for all declarations and feature structures of bulk at most 1048576 the law SubsumeCovers returns true, and what came in reads behind the call as before. Its conditions are the statement's own.
-/
import Derived.Test.YtbiadmfmjnoecaaQ17
import Derived.Test.YtbiadmfmjnoecaaQ18
namespace Go.Proofs.Ytbiadmfmjnoecaa
set_option linter.unusedSimpArgs false
set_option linter.unusedVariables false
open Go Go.Abs
def cmpI (a b : Int) : Int := if a < b then -1 else if b < a then 1 else 0
theorem cmpI_zero {a b : Int} : cmpI a b = 0 ↔ a = b := by
 unfold cmpI
 constructor
 ·intro h
  split at h
  ·cases h
  ·split at h
   ·cases h
   ·omega
 ·intro h
  rw [if_neg (by omega), if_neg (by omega)]
theorem isNaN_call (a : Int) : CallT Try.prog G 112 [iv a] (· = bv false) := by
 refine k_cmp_isNaN.runs ctx0 rfl ?_
 simp -implicitDefEqProofs [M_cmp_isNaN]
noncomputable def gNaN : List T → Option T := g1 tInt fun _ => some (bv false)
theorem gNaN_ok : GOK Try.prog G 112 gNaN := g1_ok fun a x r ha hr => by
 obtain rfl : a = iv x := ha
 injection hr with hr; subst hr; exact isNaN_call x
theorem gNaN_eq (a : Int) : gNaN [iv a] = some (bv false) := g1_eq (τ := tInt) rfl
noncomputable def tw17 : Tbl := [(112, gNaN)]
theorem ctw17 : Ctx Try.prog G (orc tw17) := (TblOK.cons gNaN_ok .nil).ctx mixed
theorem cmpCompare_call (a b : Int) : CallT Try.prog G 82 [iv a, iv b] (· = iv (cmpI a b)) := by
 refine k_cmp_Compare.runs ctw17 rfl ?_
 by_cases h1 : a < b
 ·have hr : cmpI a b = -1 := by unfold cmpI; rw [if_pos h1]
  simp -implicitDefEqProofs [M_cmp_Compare, tw17, gNaN_eq, h1, hr]
 ·by_cases h2 : b < a
  ·have hr : cmpI a b = 1 := by unfold cmpI; rw [if_neg h1, if_pos h2]
   simp -implicitDefEqProofs [M_cmp_Compare, tw17, gNaN_eq, h1, h2, hr]
  ·have hr : cmpI a b = 0 := by unfold cmpI; rw [if_neg h1, if_neg h2]
   simp -implicitDefEqProofs [M_cmp_Compare, tw17, gNaN_eq, h1, h2, hr]
noncomputable def gCmp : List T → Option T := g2 tInt tInt fun a b => some (iv (cmpI a b))
theorem gCmp_ok : GOK Try.prog G 82 gCmp := g2_ok fun a b x y r ha hb hr => by
 obtain rfl : a = iv x := ha
 obtain rfl : b = iv y := hb
 injection hr with hr; subst hr; exact cmpCompare_call x y
theorem gCmp_eq (a b : Int) : gCmp [iv a, iv b] = some (iv (cmpI a b)) := g2_eq (τ := tInt) (σ := tInt) rfl rfl
def S113 (t : T) (n j : Nat) : AState := ⟨[(8, .t (iv (j : Int))), (7, .t (iv (n : Int))), (6, .t t), (3, .t (iv 0))], [], 0, 18⟩
theorem cmpOr_call {t : T} {l : List Int} (ht : IsS eInt t l) (hl : l.length ≤ 1000000) : CallT Try.prog G 113 [t] (· = iv (fst (nAt l) l.length)) := by
 refine k_cmp_Or.call rfl ?_
 unfold M_cmp_Or
 refine mc_seq_runs ctx0 ?_
 simp -implicitDefEqProofs
 refine mc_seq_runs ctx0 ?_
 simp -implicitDefEqProofs
 obtain ⟨n, hle, h0, hn⟩ := fst_cases (nAt l) l.length
 refine mc_cut (fun _ : Unit => S113 t l.length l.length) (fun _ => fst (nAt l) l.length = 0) (fun _ => rfl) ?_ ?_
 ·refine mc_seq_runs ctx0 ?_
  simp -implicitDefEqProofs [ht.len]
  refine mc_block ?_
  refine mc_for (S113 t l.length) n (fun _ => rfl) ?_ rfl ?_ ?_
  ·refine sub_forget rfl rfl ?_ ?_ <;> simp -implicitDefEqProofs [S113]
  ·intro j hj
   have hjl : j < l.length := by omega
   have ia := ia_int ht (nAt_get hjl)
   rw [h0 j hj] at ia
   have e1 : IntKind.i64.wrap ((j : Int) + 1) = ((j + 1 : Nat) : Int) := wrap_nat (by omega) (by omega)
   refine mc_runs ctx0 ?_
   simp -implicitDefEqProofs [S113, hjl, ia, loadM, e1]
   refine sub_forget rfl rfl ?_ ?_ <;> simp -implicitDefEqProofs
  ·refine mc_runs ctx0 ?_
   rcases hn with ⟨e, hz⟩ | ⟨hjl, hk, he⟩
   ·have hnl : ¬ n < l.length := by omega
    simp -implicitDefEqProofs [S113, hnl]
    exact Next.mk () hz (sub_forget rfl rfl (by simp -implicitDefEqProofs [e]) (by simp -implicitDefEqProofs))
   ·have ia := ia_int ht (nAt_get hjl)
    have hk' := neq_zero hk
    simp -implicitDefEqProofs [S113, hjl, ia, loadM, hk, hk', he]
 ·rintro _ e
  refine mc_runs ctx0 ?_
  simp -implicitDefEqProofs [S113, e]
noncomputable def gOr : List T → Option T := g1 (tSl eInt) fun l => if l.length ≤ 1000000 then some (iv (fst (nAt l) l.length)) else none
theorem gOr_ok : GOK Try.prog G 113 gOr := g1_ok fun a l r ha hr => by
 split at hr
 ·rename_i h; injection hr with hr; subst hr; exact cmpOr_call ha h
 ·cases hr
def orI (a b : Int) : Int := if a = 0 then b else a
theorem orI_zero {a b : Int} : orI a b = 0 ↔ a = 0 ∧ b = 0 := by
 unfold orI
 split
 ·rename_i h; simp [h]
 ·rename_i h; simp [h]
theorem gOr_eq (a b : Int) : gOr [treeS eInt [a, b]] = some (iv (orI a b)) := by
 refine (g1_eq (τ := tSl eInt) (IsS.tree eInt [a, b])).trans ?_
 rw [if_pos (by simp)]
 have : fst (nAt [a, b]) [a, b].length = orI a b := by
  simp only [List.length_cons, List.length_nil, fst, nAt, orI]
  by_cases h : a = 0
  ·simp [h]
  ·simp [h]
 rw [this]
def arcC (a b : Arc) : Int := orI (cmpI a.feat b.feat) (cmpI a.to b.to)
theorem arcC_zero {a b : Arc} : arcC a b = 0 ↔ a = b := by
 unfold arcC
 rw [orI_zero, cmpI_zero, cmpI_zero]
 constructor
 ·rintro ⟨h1, h2⟩; cases a; cases b; simp only at h1 h2; rw [h1, h2]
 ·intro h; rw [h]; exact ⟨rfl, rfl⟩
noncomputable def tw17b : Tbl := [(82, gCmp), (113, gOr)]
theorem ctw17b : Ctx Try.prog G (orc tw17b) := (TblOK.cons gCmp_ok (.cons gOr_ok .nil)).ctx mixed
theorem arcC_call (a b : Arc) : CallT Try.prog G 115 [.ag [iv a.feat, iv a.to], .ag [iv b.feat, iv b.to]] (· = iv (arcC a b)) := by
 have c1 : cellsP (.t (.ag [iv a.feat, iv a.to])) = some [.t (iv a.feat), .t (iv a.to)] := rfl
 have c2 : cellsP (.t (.ag [iv b.feat, iv b.to])) = some [.t (iv b.feat), .t (iv b.to)] := rfl
 have ts : tsliceM 3 1 [.int .i64 0] 2 [(0, .t (iv (cmpI a.feat b.feat))), (1, .t (iv (cmpI a.to b.to)))] = some (.t (treeS eInt [cmpI a.feat b.feat, cmpI a.to b.to])) := rfl
 have go := gOr_eq (cmpI a.feat b.feat) (cmpI a.to b.to)
 refine k_graph_compareNodes_1.runs ctw17b rfl ?_
 simp -implicitDefEqProofs [M_graph_compareNodes_1, c1, c2, loadM, tw17b, gCmp_eq, ts, go, arcC]
noncomputable def gArcC : List T → Option T := g2 (tAg eArc) (tAg eArc) fun a b => some (iv (arcC a b))
theorem gArcC_ok : GOK Try.prog G 115 gArcC := g2_ok fun a b x y r ha hb hr => by
 obtain rfl : a = .ag (eArc.enc x) := ha
 obtain rfl : b = .ag (eArc.enc y) := hb
 injection hr with hr; subst hr; exact arcC_call x y
theorem hOfT_eq2 {g : List T → Option T} {x y r : T} (h : g [x, y] = some r) (hp : plainT r = true) (H : Heap) (nx : Nat) : hOfT g [.t x, .t y] H nx = some (.t r, H, nx) := by
 simp [hOfT, h, hp]
theorem hOfT_eq3 {g : List T → Option T} {x y z r : T} (h : g [x, y, z] = some r) (hp : plainT r = true) (H : Heap) (nx : Nat) : hOfT g [.t x, .t y, .t z] H nx = some (.t r, H, nx) := by
 simp [hOfT, h, hp]
section
variable {α : Type}
def cfE (c : α → α → Int) (l m : List α) (i : Nat) : Int := match l[i]?, m[i]? with
 | some x, some y => c x y
 | some _, none => 1
 | _, _ => 0
def cfV (c : α → α → Int) (l m : List α) : Int := if fst (cfE c l m) l.length ≠ 0 then fst (cfE c l m) l.length else if l.length < m.length then -1 else 0
theorem cfV_zero {c : α → α → Int} {l m : List α} : cfV c l m = 0 ↔ l.length = m.length ∧ ∀ (i : Nat) x y, l[i]? = some x → m[i]? = some y → c x y = 0 := by
 unfold cfV
 constructor
 ·intro h
  by_cases h0 : fst (cfE c l m) l.length = 0
  ·rw [if_neg (by rw [h0]; simp)] at h
   split at h
   ·cases h
   ·have hle : m.length ≤ l.length := by omega
    have hz := fst_zero h0
    have he : l.length = m.length := by
     apply Classical.byContradiction
     intro hne
     have hlt : m.length < l.length := by omega
     have := hz m.length hlt
     simp [cfE, List.getElem?_eq_getElem hlt] at this
    refine ⟨he, fun i x y hx hy => ?_⟩
    have := hz i (List.getElem?_eq_some_iff.1 hx).1
    simpa [cfE, hx, hy] using this
  ·rw [if_pos h0] at h
   exact absurd h h0
 ·rintro ⟨h1, h2⟩
  have h0 : fst (cfE c l m) l.length = 0 := fst_all fun i hi => by
   have hm : i < m.length := by omega
   simp only [cfE, List.getElem?_eq_getElem hi, List.getElem?_eq_getElem hm]
   exact h2 i _ _ (List.getElem?_eq_getElem hi) (List.getElem?_eq_getElem hm)
  rw [if_neg (by rw [h0]; simp), if_neg (by omega)]
end
abbrev fnV (f : Nat) : T := .v (.func (.func f) #[] #[])
def S114 (t u : T) (n j : Nat) : AState := ⟨[(13, .t (iv (j : Int))), (12, .t (iv (n : Int))), (11, .t t), (2, .t (fnV 115)), (1, .t u), (0, .t t)], [], 0, 39⟩
noncomputable def ht114 : HTbl := [(115, hOfT gArcC)]
theorem cth114 : Ctx Try.prog G (orh [] ht114) := TblOK.nil.ctxH (HTblOK.cons gArcC_ok.hok .nil) mixed
theorem cf114_call {t u : T} {l m : List Arc} (ht : IsS eArc t l) (hu : IsS eArc u m) (hl : l.length ≤ 1000000) (hm : m.length ≤ 1000000) : CallT Try.prog G 114 [t, u, fnV 115] (· = iv (cfV arcC l m)) := by
 refine k_slices_CompareFunc_2.call rfl ?_
 unfold M_slices_CompareFunc_2
 refine mc_seq_runs cth114 ?_
 simp -implicitDefEqProofs
 obtain ⟨n, hle, h0, hn⟩ := fst_cases (cfE arcC l m) l.length
 refine mc_cut (fun _ : Unit => S114 t u l.length l.length) (fun _ => fst (cfE arcC l m) l.length = 0) (fun _ => rfl) ?_ ?_
 ·refine mc_seq_runs cth114 ?_
  simp -implicitDefEqProofs [ht.len]
  refine mc_block ?_
  refine mc_for (S114 t u l.length) n (fun _ => rfl) ?_ rfl ?_ ?_
  ·refine sub_forget rfl rfl ?_ ?_ <;> simp -implicitDefEqProofs [S114]
  ·intro j hj
   have hjl : j < l.length := by omega
   have hz := h0 j hj
   have hjm : j < m.length := by
    apply Classical.byContradiction
    intro h
    simp [cfE, List.getElem?_eq_getElem hjl, List.getElem?_eq_none (Nat.le_of_not_lt h)] at hz
   have hjm' : ¬ (m.length : Int) ≤ (j : Int) := by omega
   have hjm2 : ¬ m.length ≤ j := by omega
   obtain ⟨x, hx⟩ : ∃ x, l[j]? = some x := ⟨_, List.getElem?_eq_getElem hjl⟩
   obtain ⟨y, hy⟩ : ∃ y, m[j]? = some y := ⟨_, List.getElem?_eq_getElem hjm⟩
   simp only [cfE, hx, hy] at hz
   have ix := ia_Arc ht hx
   have iy := ia_Arc hu hy
   have e1 : IntKind.i64.wrap ((j : Int) + 1) = ((j + 1 : Nat) : Int) := wrap_nat (by omega) (by omega)
   have cx : cellsP (.t (.ag [iv x.feat, iv x.to])) = some [.t (iv x.feat), .t (iv x.to)] := rfl
   have cy : cellsP (.t (.ag [iv y.feat, iv y.to])) = some [.t (iv y.feat), .t (iv y.to)] := rfl
   have ax : agOf [.t (iv x.feat), .t (iv x.to)] = .t (.ag [iv x.feat, iv x.to]) := rfl
   have ay : agOf [.t (iv y.feat), .t (iv y.to)] = .t (.ag [iv y.feat, iv y.to]) := rfl
   have gc : gArcC [.ag [iv x.feat, iv x.to], .ag [iv y.feat, iv y.to]] = some (iv (arcC x y)) := g2_eq (τ := tAg eArc) (σ := tAg eArc) (x := x) (y := y) rfl rfl
   rw [hz] at gc
   have hc := fun H nx => hOfT_eq2 gc rfl H nx
   refine mc_runs cth114 ?_
   simp -implicitDefEqProofs [S114, fnV, hjl, hjm', hjm2, ix, iy, hu.len, loadM, storeM, cx, cy, ax, ay, splice, ht114, hc, e1]
   exact sub_R (by omega) (fun q hq => by cases hq) (by simp -implicitDefEqProofs [under])
  ·refine mc_runs cth114 ?_
   rcases hn with ⟨e, hz⟩ | ⟨hjl, hk, he⟩
   ·have hnl : ¬ n < l.length := by omega
    simp -implicitDefEqProofs [S114, hnl]
    exact Next.mk () hz (sub_forget rfl rfl (by simp -implicitDefEqProofs [e]) (by simp -implicitDefEqProofs))
   ·have hres : cfV arcC l m = cfE arcC l m n := by unfold cfV; rw [if_pos (by rw [he]; exact hk), he]
    obtain ⟨x, hx⟩ : ∃ x, l[n]? = some x := ⟨_, List.getElem?_eq_getElem hjl⟩
    have ix := ia_Arc ht hx
    have cx : cellsP (.t (.ag [iv x.feat, iv x.to])) = some [.t (iv x.feat), .t (iv x.to)] := rfl
    have ax : agOf [.t (iv x.feat), .t (iv x.to)] = .t (.ag [iv x.feat, iv x.to]) := rfl
    by_cases hjm : n < m.length
    ·have hjm' : ¬ (m.length : Int) ≤ (n : Int) := by omega
     have hjm2 : ¬ m.length ≤ n := by omega
     obtain ⟨y, hy⟩ : ∃ y, m[n]? = some y := ⟨_, List.getElem?_eq_getElem hjm⟩
     simp only [cfE, hx, hy] at hk hres
     have iy := ia_Arc hu hy
     have cy : cellsP (.t (.ag [iv y.feat, iv y.to])) = some [.t (iv y.feat), .t (iv y.to)] := rfl
     have ay : agOf [.t (iv y.feat), .t (iv y.to)] = .t (.ag [iv y.feat, iv y.to]) := rfl
     have gc : gArcC [.ag [iv x.feat, iv x.to], .ag [iv y.feat, iv y.to]] = some (iv (arcC x y)) := g2_eq (τ := tAg eArc) (σ := tAg eArc) (x := x) (y := y) rfl rfl
     have hc := fun H nx => hOfT_eq2 gc rfl H nx
     have hk' := neq_zero hk
     simp -implicitDefEqProofs [S114, fnV, hjl, hjm', hjm2, ix, iy, hu.len, loadM, storeM, cx, cy, ax, ay, splice, ht114, hc, hk, hk', hres]
    ·have hjm' : (m.length : Int) ≤ (n : Int) := by omega
     have hjm2 : m.length ≤ n := by omega
     simp only [cfE, hx, List.getElem?_eq_none hjm2] at hres
     simp -implicitDefEqProofs [S114, fnV, hjl, hjm', hjm2, ix, hu.len, loadM, storeM, cx, ax, splice, hres]
 ·rintro _ e
  have hres : cfV arcC l m = if l.length < m.length then -1 else 0 := by unfold cfV; rw [if_neg (by rw [e]; simp)]
  refine mc_runs cth114 ?_
  by_cases hlt : l.length < m.length
  ·rw [if_pos hlt] at hres
   simp -implicitDefEqProofs [S114, ht.len, hu.len, hlt, hres]
  ·rw [if_neg hlt] at hres
   simp -implicitDefEqProofs [S114, ht.len, hu.len, hlt, hres]
theorem arcs_zero {l m : List Arc} : cfV arcC l m = 0 ↔ l = m := by
 rw [cfV_zero]
 constructor
 ·rintro ⟨h1, h2⟩
  refine List.ext_getElem h1 fun i hi hi' => ?_
  exact arcC_zero.1 (h2 i _ _ (List.getElem?_eq_getElem hi) (List.getElem?_eq_getElem hi'))
 ·rintro rfl
  refine ⟨rfl, fun i x y hx hy => ?_⟩
  rw [hx] at hy
  injection hy with hy
  exact arcC_zero.2 hy
def tFn (f : Nat) : Ty Unit := ⟨fun t _ => t = fnV f, fun _ _ _ _ _ => rfl⟩
noncomputable def gCf2 : List T → Option T := g3 (tSl eArc) (tSl eArc) (tFn 115) fun l m _ => if l.length ≤ 1000000 ∧ m.length ≤ 1000000 then some (iv (cfV arcC l m)) else none
theorem gCf2_ok : GOK Try.prog G 114 gCf2 := g3_ok fun a b c l m _ r ha hb hc hr => by
 obtain rfl : c = fnV 115 := hc
 split at hr
 ·rename_i h; injection hr with hr; subst hr; exact cf114_call ha hb h.1 h.2
 ·cases hr
theorem gCf2_eq {t u : T} {l m : List Arc} (ht : IsS eArc t l) (hu : IsS eArc u m) (hl : l.length ≤ 1000000) (hm : m.length ≤ 1000000) : gCf2 [t, u, fnV 115] = some (iv (cfV arcC l m)) :=
 (g3_eq (τ := tSl eArc) (σ := tSl eArc) (ρ := tFn 115) (z := ()) ht hu rfl).trans (if_pos ⟨hl, hm⟩)
def ndC (x y : Nd) : Int := if orI (cmpI x.type y.type) (cmpI (x.arcs.length : Int) (y.arcs.length : Int)) ≠ 0 then orI (cmpI x.type y.type) (cmpI (x.arcs.length : Int) (y.arcs.length : Int)) else cfV arcC x.arcs y.arcs
theorem ndC_zero {x y : Nd} : ndC x y = 0 ↔ x.key = y.key := by
 unfold ndC Nd.key
 constructor
 ·intro h
  split at h
  ·rename_i h0; exact absurd h h0
  ·rename_i h0
   have h0 : orI (cmpI x.type y.type) (cmpI (x.arcs.length : Int) (y.arcs.length : Int)) = 0 := Classical.byContradiction h0
   rw [orI_zero, cmpI_zero] at h0
   rw [h0.1, arcs_zero.1 h]
 ·intro h
  injection h with h1 h2
  have h0 : orI (cmpI x.type y.type) (cmpI (x.arcs.length : Int) (y.arcs.length : Int)) = 0 := by
   rw [orI_zero, cmpI_zero, cmpI_zero, h1, h2]
   exact ⟨rfl, rfl⟩
  rw [if_neg (by rw [h0]; simp)]
  exact arcs_zero.2 h2
noncomputable def tw17c : Tbl := [(82, gCmp), (113, gOr)]
noncomputable def hw17c : HTbl := [(114, hOfT gCf2)]
theorem ctw17c : Ctx Try.prog G (orh tw17c hw17c) := (TblOK.cons gCmp_ok (.cons gOr_ok .nil)).ctxH (HTblOK.cons gCf2_ok.hok .nil) mixed
set_option maxHeartbeats 2000000 in
theorem ndC_call (x y : Nd) (hx : x.arcs.length ≤ 1000000) (hy : y.arcs.length ≤ 1000000) : CallT Try.prog G 84 [.ag [iv x.type, x.tree], .ag [iv y.type, y.tree]] (· = iv (ndC x y)) := by
 have c1 : cellsP (.t (.ag [iv x.type, x.tree])) = some [.t (iv x.type), .t x.tree] := rfl
 have c2 : cellsP (.t (.ag [iv y.type, y.tree])) = some [.t (iv y.type), .t y.tree] := rfl
 have ts : tsliceM 3 1 [.int .i64 0] 2 [(0, .t (iv (cmpI x.type y.type))), (1, .t (iv (cmpI (x.arcs.length : Int) (y.arcs.length : Int))))] = some (.t (treeS eInt [cmpI x.type y.type, cmpI (x.arcs.length : Int) (y.arcs.length : Int)])) := rfl
 have go := gOr_eq (cmpI x.type y.type) (cmpI (x.arcs.length : Int) (y.arcs.length : Int))
 have gf := gCf2_eq x.ok y.ok hx hy
 have hc := fun H nx => hOfT_eq3 gf rfl H nx
 unfold fnV at hc
 refine k_graph_compareNodes.runs ctw17c rfl ?_
 by_cases h0 : orI (cmpI x.type y.type) (cmpI (x.arcs.length : Int) (y.arcs.length : Int)) = 0
 ·have hr : ndC x y = cfV arcC x.arcs y.arcs := by unfold ndC; rw [if_neg (by rw [h0]; simp)]
  rw [h0] at go
  simp -implicitDefEqProofs [M_graph_compareNodes, c1, c2, loadM, x.ok.len, y.ok.len, tw17c, gCmp_eq, ts, go, hw17c, hc, hr]
 ·have hr : ndC x y = orI (cmpI x.type y.type) (cmpI (x.arcs.length : Int) (y.arcs.length : Int)) := by unfold ndC; rw [if_pos h0]
  have h0' := neq_zero h0
  simp -implicitDefEqProofs [M_graph_compareNodes, c1, c2, loadM, x.ok.len, y.ok.len, tw17c, gCmp_eq, ts, go, h0, h0', hr]
noncomputable def gNdC : List T → Option T := g2 (tAg eNd) (tAg eNd) fun x y => if x.arcs.length ≤ 1000000 ∧ y.arcs.length ≤ 1000000 then some (iv (ndC x y)) else none
theorem gNdC_ok : GOK Try.prog G 84 gNdC := g2_ok fun a b x y r ha hb hr => by
 obtain rfl : a = .ag (eNd.enc x) := ha
 obtain rfl : b = .ag (eNd.enc y) := hb
 split at hr
 ·rename_i h; injection hr with hr; subst hr; exact ndC_call x y h.1 h.2
 ·cases hr
def S83 (t u : T) (n j : Nat) : AState := ⟨[(13, .t (iv (j : Int))), (12, .t (iv (n : Int))), (11, .t t), (2, .t (fnV 84)), (1, .t u), (0, .t t)], [], 0, 39⟩
noncomputable def ht83 : HTbl := [(84, hOfT gNdC)]
theorem cth83 : Ctx Try.prog G (orh [] ht83) := TblOK.nil.ctxH (HTblOK.cons gNdC_ok.hok .nil) mixed
theorem cf83_call {t u : T} {l m : List Nd} (ht : IsS eNd t l) (hu : IsS eNd u m) (hl : l.length ≤ 1000000) (hm : m.length ≤ 1000000) (hla : ∀ x ∈ l, x.arcs.length ≤ 1000000) (hma : ∀ x ∈ m, x.arcs.length ≤ 1000000) : CallT Try.prog G 83 [t, u, fnV 84] (· = iv (cfV ndC l m)) := by
 refine k_slices_CompareFunc.call rfl ?_
 unfold M_slices_CompareFunc
 refine mc_seq_runs cth83 ?_
 simp -implicitDefEqProofs
 obtain ⟨n, hle, h0, hn⟩ := fst_cases (cfE ndC l m) l.length
 refine mc_cut (fun _ : Unit => S83 t u l.length l.length) (fun _ => fst (cfE ndC l m) l.length = 0) (fun _ => rfl) ?_ ?_
 ·refine mc_seq_runs cth83 ?_
  simp -implicitDefEqProofs [ht.len]
  refine mc_block ?_
  refine mc_for (S83 t u l.length) n (fun _ => rfl) ?_ rfl ?_ ?_
  ·refine sub_forget rfl rfl ?_ ?_ <;> simp -implicitDefEqProofs [S83]
  ·intro j hj
   have hjl : j < l.length := by omega
   have hz := h0 j hj
   have hjm : j < m.length := by
    apply Classical.byContradiction
    intro h
    simp [cfE, List.getElem?_eq_getElem hjl, List.getElem?_eq_none (Nat.le_of_not_lt h)] at hz
   have hjm' : ¬ (m.length : Int) ≤ (j : Int) := by omega
   have hjm2 : ¬ m.length ≤ j := by omega
   obtain ⟨x, hx⟩ : ∃ x, l[j]? = some x := ⟨_, List.getElem?_eq_getElem hjl⟩
   obtain ⟨y, hy⟩ : ∃ y, m[j]? = some y := ⟨_, List.getElem?_eq_getElem hjm⟩
   simp only [cfE, hx, hy] at hz
   have ix := ia_Nd ht hx
   have iy := ia_Nd hu hy
   have e1 : IntKind.i64.wrap ((j : Int) + 1) = ((j + 1 : Nat) : Int) := wrap_nat (by omega) (by omega)
   have cx : cellsP (.t (.ag [iv x.type, x.tree])) = some [.t (iv x.type), .t x.tree] := rfl
   have cy : cellsP (.t (.ag [iv y.type, y.tree])) = some [.t (iv y.type), .t y.tree] := rfl
   have ax : agOf [.t (iv x.type), .t x.tree] = .t (.ag [iv x.type, x.tree]) := rfl
   have ay : agOf [.t (iv y.type), .t y.tree] = .t (.ag [iv y.type, y.tree]) := rfl
   have gc : gNdC [.ag [iv x.type, x.tree], .ag [iv y.type, y.tree]] = some (iv (ndC x y)) := (g2_eq (τ := tAg eNd) (σ := tAg eNd) (x := x) (y := y) rfl rfl).trans (if_pos ⟨hla x (List.mem_of_getElem? hx), hma y (List.mem_of_getElem? hy)⟩)
   rw [hz] at gc
   have hc := fun H nx => hOfT_eq2 gc rfl H nx
   refine mc_runs cth83 ?_
   simp -implicitDefEqProofs [S83, fnV, hjl, hjm', hjm2, ix, iy, hu.len, loadM, storeM, cx, cy, ax, ay, splice, ht83, hc, e1]
   exact sub_R (by omega) (fun q hq => by cases hq) (by simp -implicitDefEqProofs [under])
  ·refine mc_runs cth83 ?_
   rcases hn with ⟨e, hz⟩ | ⟨hjl, hk, he⟩
   ·have hnl : ¬ n < l.length := by omega
    simp -implicitDefEqProofs [S83, hnl]
    exact Next.mk () hz (sub_forget rfl rfl (by simp -implicitDefEqProofs [e]) (by simp -implicitDefEqProofs))
   ·have hres : cfV ndC l m = cfE ndC l m n := by unfold cfV; rw [if_pos (by rw [he]; exact hk), he]
    obtain ⟨x, hx⟩ : ∃ x, l[n]? = some x := ⟨_, List.getElem?_eq_getElem hjl⟩
    have ix := ia_Nd ht hx
    have cx : cellsP (.t (.ag [iv x.type, x.tree])) = some [.t (iv x.type), .t x.tree] := rfl
    have ax : agOf [.t (iv x.type), .t x.tree] = .t (.ag [iv x.type, x.tree]) := rfl
    by_cases hjm : n < m.length
    ·have hjm' : ¬ (m.length : Int) ≤ (n : Int) := by omega
     have hjm2 : ¬ m.length ≤ n := by omega
     obtain ⟨y, hy⟩ : ∃ y, m[n]? = some y := ⟨_, List.getElem?_eq_getElem hjm⟩
     simp only [cfE, hx, hy] at hk hres
     have iy := ia_Nd hu hy
     have cy : cellsP (.t (.ag [iv y.type, y.tree])) = some [.t (iv y.type), .t y.tree] := rfl
     have ay : agOf [.t (iv y.type), .t y.tree] = .t (.ag [iv y.type, y.tree]) := rfl
     have gc : gNdC [.ag [iv x.type, x.tree], .ag [iv y.type, y.tree]] = some (iv (ndC x y)) := (g2_eq (τ := tAg eNd) (σ := tAg eNd) (x := x) (y := y) rfl rfl).trans (if_pos ⟨hla x (List.mem_of_getElem? hx), hma y (List.mem_of_getElem? hy)⟩)
     have hc := fun H nx => hOfT_eq2 gc rfl H nx
     have hk' := neq_zero hk
     simp -implicitDefEqProofs [S83, fnV, hjl, hjm', hjm2, ix, iy, hu.len, loadM, storeM, cx, cy, ax, ay, splice, ht83, hc, hk, hk', hres]
    ·have hjm' : (m.length : Int) ≤ (n : Int) := by omega
     have hjm2 : m.length ≤ n := by omega
     simp only [cfE, hx, List.getElem?_eq_none hjm2] at hres
     simp -implicitDefEqProofs [S83, fnV, hjl, hjm', hjm2, ix, hu.len, loadM, storeM, cx, ax, splice, hres]
 ·rintro _ e
  have hres : cfV ndC l m = if l.length < m.length then -1 else 0 := by unfold cfV; rw [if_neg (by rw [e]; simp)]
  refine mc_runs cth83 ?_
  by_cases hlt : l.length < m.length
  ·rw [if_pos hlt] at hres
   simp -implicitDefEqProofs [S83, ht.len, hu.len, hlt, hres]
  ·rw [if_neg hlt] at hres
   simp -implicitDefEqProofs [S83, ht.len, hu.len, hlt, hres]
noncomputable def gCf : List T → Option T := g3 (tSl eNd) (tSl eNd) (tFn 84) fun l m _ => open Classical in if Small l ∧ Small m then some (iv (cfV ndC l m)) else none
theorem gCf_ok : GOK Try.prog G 83 gCf := g3_ok fun a b c l m _ r ha hb hc hr => by
 obtain rfl : c = fnV 84 := hc
 split at hr
 ·rename_i h
  injection hr with hr
  subst hr
  have h1 := h.1.len
  have h2 := h.2.len
  exact cf83_call ha hb (by omega) (by omega) h.1.arcs h.2.arcs
 ·cases hr
theorem gCf_eq {t u : T} {l m : List Nd} (ht : IsS eNd t l) (hu : IsS eNd u m) (hl : Small l) (hm : Small m) : gCf [t, u, fnV 84] = some (iv (cfV ndC l m)) :=
 (g3_eq (τ := tSl eNd) (σ := tSl eNd) (ρ := tFn 84) (z := ()) ht hu rfl).trans (if_pos ⟨hl, hm⟩)
def graphC (l m : List Nd) : Int := if cmpI (l.length : Int) (m.length : Int) ≠ 0 then cmpI (l.length : Int) (m.length : Int) else cfV ndC l m
theorem graphC_zero {l m : List Nd} : graphC l m = 0 ↔ l.map Nd.key = m.map Nd.key := by
 unfold graphC
 constructor
 ·intro h
  split at h
  ·rename_i h0; exact absurd h h0
  ·obtain ⟨h1, h2⟩ := cfV_zero.1 h
   refine List.ext_getElem (by simpa using h1) fun i hi hi' => ?_
   simp only [List.getElem_map]
   exact ndC_zero.1 (h2 i _ _ (List.getElem?_eq_getElem (by simpa using hi)) (List.getElem?_eq_getElem (by simpa using hi')))
 ·intro h
  have hl : l.length = m.length := by simpa using congrArg List.length h
  rw [if_neg (by rw [cmpI_zero.2 (by omega)]; simp)]
  refine cfV_zero.2 ⟨hl, fun i x y hx hy => ndC_zero.2 ?_⟩
  have h1 : (l.map Nd.key)[i]? = some x.key := by rw [List.getElem?_map, hx]; rfl
  have h2 : (m.map Nd.key)[i]? = some y.key := by rw [List.getElem?_map, hy]; rfl
  rw [h, h2] at h1
  injection h1 with h1
  exact h1.symm
noncomputable def hw17d : HTbl := [(83, hOfT gCf)]
noncomputable def tw17d : Tbl := [(82, gCmp)]
theorem ctw17d : Ctx Try.prog G (orh tw17d hw17d) := (TblOK.cons gCmp_ok .nil).ctxH (HTblOK.cons gCf_ok.hok .nil) mixed
theorem graphC_call {t u : T} {l m : List Nd} (ht : IsS eNd t l) (hu : IsS eNd u m) (hl : Small l) (hm : Small m) : CallT Try.prog G 58 [.ag [t], .ag [u]] (· = iv (graphC l m)) := by
 have c1 : cellsP (.t (.ag [t])) = some [.t t] := rfl
 have c2 : cellsP (.t (.ag [u])) = some [.t u] := rfl
 have hc := fun H nx => hOfT_eq3 (gCf_eq ht hu hl hm) rfl H nx
 unfold fnV at hc
 have gc := gCmp_eq (l.length : Int) (m.length : Int)
 refine k_graph_Compare.runs ctw17d rfl ?_
 by_cases h0 : cmpI (l.length : Int) (m.length : Int) = 0
 ·have hr : graphC l m = cfV ndC l m := by unfold graphC; rw [if_neg (by rw [h0]; simp)]
  rw [h0] at gc
  simp -implicitDefEqProofs [M_graph_Compare, c1, c2, loadM, ht.len, hu.len, tw17d, gc, hw17d, hc, hr]
 ·have hr : graphC l m = cmpI (l.length : Int) (m.length : Int) := by unfold graphC; rw [if_pos h0]
  have h0' := neq_zero h0
  simp -implicitDefEqProofs [M_graph_Compare, c1, c2, loadM, ht.len, hu.len, tw17d, gc, h0, h0', hr]
noncomputable def gGraphC : List T → Option T := g2 tFS tFS fun a b => open Classical in if Small a ∧ Small b then some (iv (graphC a b)) else none
theorem gGraphC_ok : GOK Try.prog G 58 gGraphC := g2_ok fun a b x y r ha hb hr => by
 obtain ⟨u, rfl, hu⟩ := ha
 obtain ⟨v, rfl, hv⟩ := hb
 split at hr
 ·rename_i h; injection hr with hr; subst hr; exact graphC_call hu hv h.1 h.2
 ·cases hr
theorem gGraphC_eq {t t' : T} {a b : List Nd} (ht : IsS eNd t a) (ht' : IsS eNd t' b) (ha : Small a) (hb : Small b) : gGraphC [.ag [t], .ag [t']] = some (iv (graphC a b)) :=
 (g2_eq (τ := tFS) (σ := tFS) ⟨t, rfl, ht⟩ ⟨t', rfl, ht'⟩).trans (if_pos ⟨ha, hb⟩)
noncomputable def tw17e : Tbl := [(58, gGraphC)]
theorem ctw17e : Ctx Try.prog G (orc tw17e) := (TblOK.cons gGraphC_ok .nil).ctx mixed
theorem gequal_call {t t' : T} {a b : List Nd} (ht : IsS eNd t a) (ht' : IsS eNd t' b) (ha : Small a) (hb : Small b) : CallT Try.prog G 25 [.ag [t], .ag [t']] (· = bv (eqE a b)) := by
 have cp : cellsP (.t (.ag [t])) = some [.t t] := rfl
 have cp' : cellsP (.t (.ag [t'])) = some [.t t'] := rfl
 have ag : agOf [.t t] = .t (.ag [t]) := rfl
 have ag' : agOf [.t t'] = .t (.ag [t']) := rfl
 have g := gGraphC_eq ht ht' ha hb
 have he : (graphC a b == 0) = eqE a b := by
  rw [Bool.eq_iff_iff, beq_iff_eq, graphC_zero, eqE_iff]
 refine k_graph_Equal.runs ctw17e rfl ?_
 simp -implicitDefEqProofs [M_graph_Equal, cp, cp', loadM, ag, ag', tw17e, g, he]
theorem gGEqual_ok : GOK Try.prog G 25 gEqual7 := g2_ok fun a b x y r ha hb hr => by
 obtain ⟨u, rfl, hu⟩ := ha
 obtain ⟨v, rfl, hv⟩ := hb
 split at hr
 ·rename_i h; injection hr with hr; subst hr; exact gequal_call hu hv h.1 h.2
 ·cases hr
def relN (up down : Bool) : Int := if up && down then 0 else if up then 1 else if down then 2 else 3
noncomputable def relM (ty : List Typ) (a b : List Nd) : Int := relN (morB ty a b) (morB ty b a)
theorem MapOK.symm {h : List Typ × List Ft} {a b : List Nd} (hm : MapOK h a b) : MapOK h b a := ⟨hm.1, ⟨hm.2.1.2, hm.2.1.1⟩, hm.2.2.2, hm.2.2.1⟩
noncomputable def gRel : List T → Option T := g3 tH tFS tFS fun h a b => open Classical in if MapOK h a b then some (iv (relM h.1 a b)) else none
theorem gRel_eq {u v ta tb : T} {h : List Typ × List Ft} {a b : List Nd} (hu : IsS eTyp u h.1) (hv : IsS eFt v h.2) (hta : IsS eNd ta a) (htb : IsS eNd tb b) (hm : MapOK h a b) : gRel [.ag [u, v], .ag [ta], .ag [tb]] = some (iv (relM h.1 a b)) :=
 (g3_eq (τ := tH) (σ := tFS) (ρ := tFS) ⟨u, v, rfl, hu, hv⟩ ⟨ta, rfl, hta⟩ ⟨tb, rfl, htb⟩).trans (if_pos hm)
noncomputable def tw18 : Tbl := [(21, gSubs9), (57, gSubs9)]
theorem ctw18 : Ctx Try.prog G (orc tw18) := (TblOK.cons ssubs_ok (.cons rsubs_ok .nil)).ctx mixed
theorem srel_ok : GOK Try.prog G 22 gRel := g3_ok fun x y z h a b r hx hy hz hr => by
 obtain ⟨u, v, rfl, hu, hv⟩ := hx
 obtain ⟨ta, rfl, hta⟩ := hy
 obtain ⟨tb, rfl, htb⟩ := hz
 split at hr
 ·rename_i hm
  injection hr with hr
  subst hr
  have g1 := gSubs9_eq hu hv hta htb hm
  have g2 := gSubs9_eq hu hv htb hta hm.symm
  have c1 : cellsP (.t (.ag [u, v])) = some [.t u, .t v] := rfl
  have c2 : cellsP (.t (.ag [ta])) = some [.t ta] := rfl
  have c3 : cellsP (.t (.ag [tb])) = some [.t tb] := rfl
  have a1 : agOf [.t u, .t v] = .t (.ag [u, v]) := rfl
  have a2 : agOf [.t ta] = .t (.ag [ta]) := rfl
  have a3 : agOf [.t tb] = .t (.ag [tb]) := rfl
  refine k_subsume_Compare.runs ctw18 rfl ?_
  unfold relM
  generalize morB h.1 a b = p at *
  generalize morB h.1 b a = q at *
  cases p <;> cases q <;> simp -implicitDefEqProofs [M_subsume_Compare, c1, c2, c3, a1, a2, a3, loadM, tw18, g1, g2, relN]
 ·cases hr
theorem rrel_ok : GOK Try.prog G 23 gRel := g3_ok fun x y z h a b r hx hy hz hr => by
 obtain ⟨u, v, rfl, hu, hv⟩ := hx
 obtain ⟨ta, rfl, hta⟩ := hy
 obtain ⟨tb, rfl, htb⟩ := hz
 split at hr
 ·rename_i hm
  injection hr with hr
  subst hr
  have g1 := gSubs9_eq hu hv hta htb hm
  have g2 := gSubs9_eq hu hv htb hta hm.symm
  have c1 : cellsP (.t (.ag [u, v])) = some [.t u, .t v] := rfl
  have c2 : cellsP (.t (.ag [ta])) = some [.t ta] := rfl
  have c3 : cellsP (.t (.ag [tb])) = some [.t tb] := rfl
  have a1 : agOf [.t u, .t v] = .t (.ag [u, v]) := rfl
  have a2 : agOf [.t ta] = .t (.ag [ta]) := rfl
  have a3 : agOf [.t tb] = .t (.ag [tb]) := rfl
  refine k_r09_Compare.runs ctw18 rfl ?_
  unfold relM
  generalize morB h.1 a b = p at *
  generalize morB h.1 b a = q at *
  cases p <;> cases q <;> simp -implicitDefEqProofs [M_r09_Compare, c1, c2, c3, a1, a2, a3, loadM, tw18, g1, g2, relN]
 ·cases hr
def nodesAt (l : List FSv) (i : Nat) : List Nd := ((l[i]?).map FSv.nodes).getD []
noncomputable def badAt (ty : List Typ) (l : List FSv) (i k : Nat) : Bool := (decide (k < i) && eqE (nodesAt l k) (nodesAt l i)) || (relM ty (nodesAt l k) (nodesAt l i) == 1)
noncomputable def badE (ty : List Typ) (l : List FSv) (i k : Nat) : Int := if badAt ty l i k then 1 else 0
noncomputable def keptB (ty : List Typ) (l : List FSv) (i : Nat) : Bool := decide (fst (badE ty l i) l.length = 0)
noncomputable def mxUp (ty : List Typ) (l : List FSv) : Nat → List Int
 | 0 => []
 | i + 1 => mxUp ty l i ++ if keptB ty l i then [(i : Int)] else []
theorem mxUp_len (ty : List Typ) (l : List FSv) : ∀ i, (mxUp ty l i).length ≤ i
 | 0 => Nat.le_refl _
 | i + 1 => by
  have := mxUp_len ty l i
  simp only [mxUp, List.length_append]
  split
  ·simp; omega
  ·simp; omega
def AllOK (h : List Typ × List Ft) (l : List FSv) : Prop := TyOK h.1 ∧ ∀ x ∈ l, Small x.nodes ∧ Valid h.1.length h.2.length x.nodes
theorem AllOK.map {h : List Typ × List Ft} {l : List FSv} (ha : AllOK h l) {i j : Nat} {x y : FSv} (hx : l[i]? = some x) (hy : l[j]? = some y) : MapOK h x.nodes y.nodes := by
 have h1 := ha.2 x (List.mem_of_getElem? hx)
 have h2 := ha.2 y (List.mem_of_getElem? hy)
 exact ⟨ha.1, ⟨h1.2, h2.2⟩, h1.1, h2.1⟩
theorem nodesAt_eq {l : List FSv} {i : Nat} {x : FSv} (h : l[i]? = some x) : nodesAt l i = x.nodes := by simp [nodesAt, h]
noncomputable def tw18b : Tbl := [(25, gEqual7), (22, gRel), (23, gRel), (33, gEqual7)]
theorem ctw18b : Ctx Try.prog G (orc tw18b) := (TblOK.cons gGEqual_ok (.cons srel_ok (.cons rrel_ok (.cons gEqual7_ok .nil)))).ctx mixed
noncomputable def SM26 (tt tf tl : T) (ty : List Typ) (l : List FSv) (i : Nat) : AState := ⟨[(11, .t (iv (i : Int))), (10, .t (iv (l.length : Int))), (9, .t tl), (5, rowP eInt 1 (mxUp ty l i)), (2, .ptr 0 0), (1, .t tl)], R16 tt tf ++ rowH eInt 3 1 (mxUp ty l i), 2, 54⟩
noncomputable def SM26e (tt tf tl : T) (ty : List Typ) (l : List FSv) (i : Nat) : AState := ⟨[(11, .t (iv (i : Int))), (10, .t (iv (l.length : Int))), (9, .t tl), (5, rowP eInt 1 (mxUp ty l (i + 1))), (2, .ptr 0 0), (1, .t tl)], R16 tt tf ++ rowH eInt 3 1 (mxUp ty l (i + 1)), 2, 54⟩
noncomputable def SM26i (tt tf tl : T) (ty : List Typ) (l : List FSv) (i k : Nat) : AState := ⟨[(16, .t (iv (k : Int))), (15, .t (iv (l.length : Int))), (7, .t (bv true)), (6, .t (iv (i : Int))), (11, .t (iv (i : Int))), (10, .t (iv (l.length : Int))), (9, .t tl), (5, rowP eInt 1 (mxUp ty l i)), (2, .ptr 0 0), (1, .t tl)], R16 tt tf ++ rowH eInt 3 1 (mxUp ty l i), 2, 54⟩
noncomputable def SM26m (tt tf tl : T) (ty : List Typ) (l : List FSv) (i : Nat) : AState := ⟨[(7, .t (bv (keptB ty l i))), (6, .t (iv (i : Int))), (11, .t (iv (i : Int))), (10, .t (iv (l.length : Int))), (9, .t tl), (5, rowP eInt 1 (mxUp ty l i)), (2, .ptr 0 0), (1, .t tl)], R16 tt tf ++ rowH eInt 3 1 (mxUp ty l i), 2, 54⟩
theorem subR16 {tt tf : T} {H : Heap} {k : Nat} (h : Abs.look H 0 = some (.cells 29 [.t tt, .t tf])) (hk : k ≠ 0) : ∀ q ∈ R16 tt tf, Abs.look H q.1 = some (renRow (fun x => if x = 1 then k else x) q.2) ∧ q.1 < 2 ∧ q.1 ≠ 1 ∧ q.1 ≠ k ∧ underRow 2 q.2 = true := by
 intro q hq
 simp only [R16, List.mem_cons, List.not_mem_nil, or_false] at hq
 subst hq
 exact ⟨h, by omega, by omega, by show 0 ≠ k; omega, rfl⟩
set_option maxHeartbeats 4000000 in
theorem smax_call {tt tf tl : T} {h : List Typ × List Ft} {l : List FSv} (hT : IsS eTyp tt h.1) (hF : IsS eFt tf h.2) (ht : IsS eFS tl l) (hl : l.length ≤ 100000) (ha : AllOK h l) : CallT Try.prog G 26 [.ag [tt, tf], tl] (· = treeS eInt (mxUp h.1 l l.length)) := by
 have cph : cellsP (.t (.ag [tt, tf])) = some [.t tt, .t tf] := rfl
 have agh : agOf [.t tt, .t tf] = .t (.ag [tt, tf]) := rfl
 have hz : eInt.z = 1 := rfl
 refine k_subsume_Maximal.call rfl ?_
 unfold M_subsume_Maximal
 refine mc_seq_runs ctw18b ?_
 simp -implicitDefEqProofs [cph]
 refine mc_seq_runs ctw18b ?_
 simp -implicitDefEqProofs
 refine mc_cut (fun _ : Unit => SM26 tt tf tl h.1 l l.length) (fun _ => True) (fun _ => rfl) ?_ ?_
 ·refine mc_seq_runs ctw18b ?_
  simp -implicitDefEqProofs [ht.len]
  refine mc_block ?_
  refine mc_for (SM26 tt tf tl h.1 l) l.length (fun _ => rfl) ?_ rfl ?_ ?_
  ·exact sub_rowR (k := 1) (RowAt.nil _ _ _ _) (by omega) (by omega) (subR16 rfl (by omega)) (by simp -implicitDefEqProofs [mxUp, rowP, ren, under])
  ·intro i hi
   obtain ⟨x, hx⟩ : ∃ x, l[i]? = some x := ⟨_, List.getElem?_eq_getElem hi⟩
   have e1 : IntKind.i64.wrap ((i : Int) + 1) = ((i + 1 : Nat) : Int) := wrap_nat (by omega) (by omega)
   have ix := ia_FS ht hx
   have hml := mxUp_len h.1 l i
   obtain ⟨mu, hmu⟩ : ∃ mu, mu = mxUp h.1 l i := ⟨_, rfl⟩
   rw [← hmu] at hml
   obtain ⟨H0, hH0⟩ : ∃ H0, H0 = R16 tt tf ++ rowH eInt 3 1 mu := ⟨_, rfl⟩
   have l0 : Abs.look H0 0 = some (.cells 29 [.t tt, .t tf]) := by rw [hH0]; rfl
   have r1 : RowAt eInt 3 H0 1 mu := by rw [hH0]; exact RowAt.right (RowAt.head' _ _ _ _) (by simp [R16])
   have ldh : loadM true 2 H0 (.ptr 0 0) = some (.t (.ag [tt, tf])) := by simp [loadM, l0, agh]
   have hnext : mxUp h.1 l (i + 1) = mu ++ if keptB h.1 l i then [(i : Int)] else [] := by rw [hmu]; rfl
   refine mc_seq_runs ctw18b ?_
   simp -implicitDefEqProofs [SM26, ← hmu, ← hH0, hi]
   refine mc_seq_runs ctw18b ?_
   simp -implicitDefEqProofs
   refine mc_cut (fun _ : Unit => SM26e tt tf tl h.1 l i) (fun _ => True) (fun _ => rfl) ?_ ?_
   ·refine mc_block ?_
    refine mc_seq_runs ctw18b ?_
    simp -implicitDefEqProofs
    refine mc_seq_runs ctw18b ?_
    simp -implicitDefEqProofs
    obtain ⟨n, hle, h0, hn⟩ := fst_cases (badE h.1 l i) l.length
    refine mc_cut (fun _ : Unit => SM26m tt tf tl h.1 l i) (fun _ => True) (fun _ => rfl) ?_ ?_
    ·refine mc_seq_runs ctw18b ?_
     simp -implicitDefEqProofs [ht.len]
     refine mc_block ?_
     have laF : ∀ (y : FSv) cs, loadM true 1 H0 (.t (.pt (y.tree :: cs))) = some (.t (.ag [y.tree])) := fun y cs => by simp [loadM]
     refine mc_for (SM26i tt tf tl h.1 l i) n (fun _ => rfl) ?_ rfl ?_ ?_
     ·unfold SM26i
      rw [← hmu, ← hH0]
      exact sub_env (by simp -implicitDefEqProofs)
     ·intro k hk
      have hkl : k < l.length := by omega
      obtain ⟨y, hy⟩ : ∃ y, l[k]? = some y := ⟨_, List.getElem?_eq_getElem hkl⟩
      have iy := ia_FS ht hy
      have e2 : IntKind.i64.wrap ((k : Int) + 1) = ((k + 1 : Nat) : Int) := wrap_nat (by omega) (by omega)
      have hm := ha.map hy hx
      have ge := gEqual7_eq y.ok x.ok hm.2.2.1 hm.2.2.2
      have gr := gRel_eq hT hF y.ok x.ok hm
      have hb : badAt h.1 l i k = false := by
       have := h0 k hk
       unfold badE at this
       cases hb : badAt h.1 l i k with
       | false => rfl
       | true => rw [hb] at this; simp at this
      unfold badAt at hb
      rw [nodesAt_eq hy, nodesAt_eq hx] at hb
      generalize eqE y.nodes x.nodes = be at *
      obtain ⟨rv, hrv⟩ : ∃ rv, rv = relM h.1 y.nodes x.nodes := ⟨_, rfl⟩
      rw [← hrv] at hb gr
      rw [Bool.or_eq_false_iff] at hb
      have hne := hb.2
      have hne' : ¬ rv = 1 := by simpa using hne
      refine mc_runs ctw18b ?_
      unfold SM26i
      rw [← hmu, ← hH0]
      by_cases hki : k < i
      ·have hbe : be = false := by simpa [hki] using hb.1
       subst hbe
       simp -implicitDefEqProofs [hkl, hki, iy, ix, laF, ldh, tw18b, ge, gr, hne, hne', e2]
       exact sub_env (by simp -implicitDefEqProofs)
      ·simp -implicitDefEqProofs [hkl, hki, iy, ix, laF, ldh, tw18b, gr, hne, hne', e2]
       exact sub_env (by simp -implicitDefEqProofs)
     ·refine mc_runs ctw18b ?_
      rcases hn with ⟨e, hz0⟩ | ⟨hkl, hk, he⟩
      ·have hnl : ¬ n < l.length := by omega
       have hkept : keptB h.1 l i = true := by simp [keptB, hz0]
       unfold SM26i SM26m
       rw [← hmu, ← hH0, hkept]
       simp -implicitDefEqProofs [hnl]
       exact Next.mk () trivial (sub_env (by simp -implicitDefEqProofs))
      ·have hkept : keptB h.1 l i = false := by unfold keptB; rw [he]; simp [hk]
       obtain ⟨y, hy⟩ : ∃ y, l[n]? = some y := ⟨_, List.getElem?_eq_getElem hkl⟩
       have iy := ia_FS ht hy
       have hm := ha.map hy hx
       have ge := gEqual7_eq y.ok x.ok hm.2.2.1 hm.2.2.2
       have gr := gRel_eq hT hF y.ok x.ok hm
       have hb : badAt h.1 l i n = true := by
        unfold badE at hk
        cases hb : badAt h.1 l i n with
        | true => rfl
        | false => rw [hb] at hk; simp at hk
       unfold badAt at hb
       rw [nodesAt_eq hy, nodesAt_eq hx] at hb
       generalize eqE y.nodes x.nodes = be at *
       obtain ⟨rv, hrv⟩ : ∃ rv, rv = relM h.1 y.nodes x.nodes := ⟨_, rfl⟩
       rw [← hrv] at hb gr
       unfold SM26i SM26m
       rw [← hmu, ← hH0, hkept]
       by_cases hki : n < i
       ·cases be with
        | true =>
         simp -implicitDefEqProofs [hkl, hki, iy, ix, laF, tw18b, ge]
         exact Next.mk () trivial (sub_env (by simp -implicitDefEqProofs))
        | false =>
         have hne' : rv = 1 := by simpa using hb
         subst hne'
         simp -implicitDefEqProofs [hkl, hki, iy, ix, laF, ldh, tw18b, ge, gr]
         exact Next.mk () trivial (sub_env (by simp -implicitDefEqProofs))
       ·have hne' : rv = 1 := by simpa [hki] using hb
        subst hne'
        simp -implicitDefEqProofs [hkl, hki, iy, ix, laF, ldh, tw18b, gr]
        exact Next.mk () trivial (sub_env (by simp -implicitDefEqProofs))
    ·rintro _ -
     refine mc_runs ctw18b ?_
     unfold SM26m SM26e
     rw [← hmu, ← hH0, hnext]
     cases hkb : keptB h.1 l i with
     | false =>
      simp only [Bool.false_eq_true, if_false, List.append_nil]
      rw [← hH0]
      simp -implicitDefEqProofs
      exact Next.mk () trivial (sub_env (by simp -implicitDefEqProofs))
     | true =>
      simp only [if_true]
      have bs : bsliceM 3 1 [.int .i64 0] 1 [(0, .t (iv (i : Int)))] 2 = some (.row 2 0 1 1, .cells 3 ((eInt.enc (i : Int)).map .t)) := rfl
      obtain ⟨b2, H2, n2, ap2, r2, ne2, le2, lk2, ge2⟩ := app_some (e := eInt) (ty := 3) (by' := 8) (nx := 3) (m := [(i : Int)]) (r1.cons (k := 2) (r := .cells 3 ((eInt.enc (i : Int)).map .t)) (by omega)) (src_one (b := 2) (ty := 3) (i : Int) (by simp)) (by simp; omega) (by simp; omega)
      rw [hz] at ap2
      simp -implicitDefEqProofs [bs, ap2]
      exact Next.mk () trivial (sub_rowR (k := b2) r2 (by omega) (by omega) (subR16 (by rw [lk2 0 (by omega) (by omega), look_cons, if_neg (by omega)]; exact l0) (by omega)) (by simp -implicitDefEqProofs [ren_rowP, under_rowP, ren, under]))
   ·rintro _ -
    refine mc_runs ctw18b ?_
    simp -implicitDefEqProofs [SM26e, e1]
    exact sub_env (by simp -implicitDefEqProofs)
  ·refine mc_runs ctw18b ?_
   simp -implicitDefEqProofs [SM26]
   exact Next.mk () trivial (sub_env (by simp -implicitDefEqProofs))
 ·rintro _ -
  refine mc_runs ctw18b ?_
  have tt' := RowAt.toT (RowAt.right (R := R16 tt tf) (RowAt.head' eInt 3 1 (mxUp h.1 l l.length)) (by simp [R16]))
  simp -implicitDefEqProofs [SM26, tt']
noncomputable def freeK (ty : List Typ) (l : List FSv) (i k : Nat) : Bool := decide (fst (badE ty l i) k = 0)
theorem freeK_succ (ty : List Typ) (l : List FSv) (i k : Nat) : freeK ty l i (k + 1) = (freeK ty l i k && !badAt ty l i k) := by
 unfold freeK
 have e : fst (badE ty l i) (k + 1) = if fst (badE ty l i) k = 0 then badE ty l i k else fst (badE ty l i) k := rfl
 rw [e]
 by_cases h : fst (badE ty l i) k = 0
 ·rw [if_pos h, h]
  unfold badE
  cases badAt ty l i k <;> simp
 ·rw [if_neg h]
  simp [h]
noncomputable def SM27 (tt tf tl : T) (ty : List Typ) (l : List FSv) (i : Nat) : AState := ⟨[(6, .t (iv (i : Int))), (5, rowP eInt 1 (mxUp ty l i)), (2, .ptr 0 0), (1, .t tl)], R16 tt tf ++ rowH eInt 3 1 (mxUp ty l i), 2, 58⟩
noncomputable def SM27e (tt tf tl : T) (ty : List Typ) (l : List FSv) (i : Nat) : AState := ⟨[(6, .t (iv (i : Int))), (5, rowP eInt 1 (mxUp ty l (i + 1))), (2, .ptr 0 0), (1, .t tl)], R16 tt tf ++ rowH eInt 3 1 (mxUp ty l (i + 1)), 2, 58⟩
noncomputable def SM27i (tt tf tl : T) (ty : List Typ) (l : List FSv) (i k : Nat) : AState := ⟨[(8, .t (iv (k : Int))), (7, .t (bv (freeK ty l i k))), (6, .t (iv (i : Int))), (5, rowP eInt 1 (mxUp ty l i)), (2, .ptr 0 0), (1, .t tl)], R16 tt tf ++ rowH eInt 3 1 (mxUp ty l i), 2, 58⟩
set_option maxHeartbeats 4000000 in
theorem rmax_call {tt tf tl : T} {h : List Typ × List Ft} {l : List FSv} (hT : IsS eTyp tt h.1) (hF : IsS eFt tf h.2) (ht : IsS eFS tl l) (hl : l.length ≤ 100000) (ha : AllOK h l) : CallT Try.prog G 27 [.ag [tt, tf], tl] (· = treeS eInt (mxUp h.1 l l.length)) := by
 have cph : cellsP (.t (.ag [tt, tf])) = some [.t tt, .t tf] := rfl
 have agh : agOf [.t tt, .t tf] = .t (.ag [tt, tf]) := rfl
 have hz : eInt.z = 1 := rfl
 refine k_r09_Maximal.call rfl ?_
 unfold M_r09_Maximal
 refine mc_seq_runs ctw18b ?_
 simp -implicitDefEqProofs [cph]
 refine mc_seq_runs ctw18b ?_
 simp -implicitDefEqProofs
 refine mc_cut (fun _ : Unit => SM27 tt tf tl h.1 l l.length) (fun _ => True) (fun _ => rfl) ?_ ?_
 ·refine mc_seq_runs ctw18b ?_
  simp -implicitDefEqProofs
  refine mc_block ?_
  refine mc_for (SM27 tt tf tl h.1 l) l.length (fun _ => rfl) ?_ rfl ?_ ?_
  ·exact sub_rowR (k := 1) (RowAt.nil _ _ _ _) (by omega) (by omega) (subR16 rfl (by omega)) (by simp -implicitDefEqProofs [mxUp, rowP, ren, under])
  ·intro i hi
   obtain ⟨x, hx⟩ : ∃ x, l[i]? = some x := ⟨_, List.getElem?_eq_getElem hi⟩
   have e1 : IntKind.i64.wrap ((i : Int) + 1) = ((i + 1 : Nat) : Int) := wrap_nat (by omega) (by omega)
   have ix := ia_FS ht hx
   have hml := mxUp_len h.1 l i
   obtain ⟨mu, hmu⟩ : ∃ mu, mu = mxUp h.1 l i := ⟨_, rfl⟩
   rw [← hmu] at hml
   obtain ⟨H0, hH0⟩ : ∃ H0, H0 = R16 tt tf ++ rowH eInt 3 1 mu := ⟨_, rfl⟩
   have l0 : Abs.look H0 0 = some (.cells 29 [.t tt, .t tf]) := by rw [hH0]; rfl
   have r1 : RowAt eInt 3 H0 1 mu := by rw [hH0]; exact RowAt.right (RowAt.head' _ _ _ _) (by simp [R16])
   have ldh : loadM true 2 H0 (.ptr 0 0) = some (.t (.ag [tt, tf])) := by simp [loadM, l0, agh]
   have laF : ∀ (y : FSv) cs, loadM true 1 H0 (.t (.pt (y.tree :: cs))) = some (.t (.ag [y.tree])) := fun y cs => by simp [loadM]
   have hnext : mxUp h.1 l (i + 1) = mu ++ if keptB h.1 l i then [(i : Int)] else [] := by rw [hmu]; rfl
   refine mc_seq_runs ctw18b ?_
   simp -implicitDefEqProofs [SM27, ← hmu, ← hH0, hi, ht.len]
   refine mc_cut (fun _ : Unit => SM27e tt tf tl h.1 l i) (fun _ => True) (fun _ => rfl) ?_ ?_
   ·refine mc_block ?_
    refine mc_seq_runs ctw18b ?_
    simp -implicitDefEqProofs
    refine mc_cut (fun _ : Unit => SM27i tt tf tl h.1 l i l.length) (fun _ => True) (fun _ => rfl) ?_ ?_
    ·refine mc_seq_runs ctw18b ?_
     simp -implicitDefEqProofs
     refine mc_block ?_
     refine mc_for (SM27i tt tf tl h.1 l i) l.length (fun _ => rfl) ?_ rfl ?_ ?_
     ·have f0 : freeK h.1 l i 0 = true := rfl
      unfold SM27i
      rw [← hmu, ← hH0, f0]
      exact sub_env (by simp -implicitDefEqProofs)
     ·intro k hkl
      obtain ⟨y, hy⟩ : ∃ y, l[k]? = some y := ⟨_, List.getElem?_eq_getElem hkl⟩
      have iy := ia_FS ht hy
      have e2 : IntKind.i64.wrap ((k : Int) + 1) = ((k + 1 : Nat) : Int) := wrap_nat (by omega) (by omega)
      have hm := ha.map hy hx
      have ge := gEqual7_eq y.ok x.ok hm.2.2.1 hm.2.2.2
      have gr := gRel_eq hT hF y.ok x.ok hm
      have hs := freeK_succ h.1 l i k
      have hb : badAt h.1 l i k = ((decide (k < i) && eqE y.nodes x.nodes) || (relM h.1 y.nodes x.nodes == 1)) := by unfold badAt; rw [nodesAt_eq hy, nodesAt_eq hx]
      rw [hb] at hs
      obtain ⟨rv, hrv⟩ : ∃ rv, rv = relM h.1 y.nodes x.nodes := ⟨_, rfl⟩
      rw [← hrv] at hs gr
      refine mc_runs ctw18b ?_
      unfold SM27i
      rw [← hmu, ← hH0, hs]
      generalize eqE y.nodes x.nodes = be at *
      generalize freeK h.1 l i k = fr at *
      cases fr with
      | false =>
       simp -implicitDefEqProofs [hkl, ht.len, e2]
       exact sub_env (by simp -implicitDefEqProofs)
      | true =>
       by_cases hr1 : rv = 1
       ·subst hr1
        simp -implicitDefEqProofs [hkl, ht.len, iy, ix, laF, ldh, tw18b, gr, e2]
        exact sub_env (by simp -implicitDefEqProofs)
       ·have hr2 : (rv == 1) = false := by rw [beq_eq_false_iff_ne]; exact hr1
        have hr3 : (rv != 1) = true := by simp [hr1]
        by_cases hki : k < i
        ·have hki' : ¬ (i : Int) ≤ (k : Int) := by omega
         have hki2 : ¬ i ≤ k := by omega
         cases be <;> (simp -implicitDefEqProofs [hkl, ht.len, iy, ix, laF, ldh, tw18b, gr, ge, hr1, hr2, hr3, hki, hki', hki2, e2]; exact sub_env (by simp -implicitDefEqProofs [hr3]))
        ·have hki' : (i : Int) ≤ (k : Int) := by omega
         have hki2 : i ≤ k := by omega
         simp -implicitDefEqProofs [hkl, ht.len, iy, ix, laF, ldh, tw18b, gr, hr1, hr2, hr3, hki, hki', hki2, e2]
         exact sub_env (by simp -implicitDefEqProofs [hr3])
     ·refine mc_runs ctw18b ?_
      simp -implicitDefEqProofs [SM27i, ht.len]
      exact Next.mk () trivial (sub_env (by simp -implicitDefEqProofs))
    ·rintro _ -
     refine mc_runs ctw18b ?_
     have hkf : freeK h.1 l i l.length = keptB h.1 l i := rfl
     unfold SM27i SM27e
     rw [← hmu, ← hH0, hnext, hkf]
     cases hkb : keptB h.1 l i with
     | false =>
      simp only [Bool.false_eq_true, if_false, List.append_nil]
      rw [← hH0]
      simp -implicitDefEqProofs
      exact Next.mk () trivial (sub_env (by simp -implicitDefEqProofs))
     | true =>
      simp only [if_true]
      have bs : bsliceM 3 1 [.int .i64 0] 1 [(0, .t (iv (i : Int)))] 2 = some (.row 2 0 1 1, .cells 3 ((eInt.enc (i : Int)).map .t)) := rfl
      obtain ⟨b2, H2, n2, ap2, r2, ne2, le2, lk2, ge2⟩ := app_some (e := eInt) (ty := 3) (by' := 8) (nx := 3) (m := [(i : Int)]) (r1.cons (k := 2) (r := .cells 3 ((eInt.enc (i : Int)).map .t)) (by omega)) (src_one (b := 2) (ty := 3) (i : Int) (by simp)) (by simp; omega) (by simp; omega)
      rw [hz] at ap2
      simp -implicitDefEqProofs [bs, ap2]
      exact Next.mk () trivial (sub_rowR (k := b2) r2 (by omega) (by omega) (subR16 (by rw [lk2 0 (by omega) (by omega), look_cons, if_neg (by omega)]; exact l0) (by omega)) (by simp -implicitDefEqProofs [ren_rowP, under_rowP, ren, under]))
   ·rintro _ -
    refine mc_runs ctw18b ?_
    simp -implicitDefEqProofs [SM27e, e1]
    exact sub_env (by simp -implicitDefEqProofs)
  ·refine mc_runs ctw18b ?_
   simp -implicitDefEqProofs [SM27, ht.len]
   exact Next.mk () trivial (sub_env (by simp -implicitDefEqProofs))
 ·rintro _ -
  refine mc_runs ctw18b ?_
  have tt' := RowAt.toT (RowAt.right (R := R16 tt tf) (RowAt.head' eInt 3 1 (mxUp h.1 l l.length)) (by simp [R16]))
  simp -implicitDefEqProofs [SM27, tt']
noncomputable def gMx : List T → Option T := g2 tH (tSl eFS) fun h l => open Classical in if l.length ≤ 100000 ∧ AllOK h l then some (treeS eInt (mxUp h.1 l l.length)) else none
theorem gMx_ok {F : Nat} (hc : ∀ {tt tf tl : T} {h : List Typ × List Ft} {l : List FSv}, IsS eTyp tt h.1 → IsS eFt tf h.2 → IsS eFS tl l → l.length ≤ 100000 → AllOK h l → CallT Try.prog G F [.ag [tt, tf], tl] (· = treeS eInt (mxUp h.1 l l.length))) : GOK Try.prog G F gMx := g2_ok fun a b h l r ha hb hr => by
 obtain ⟨u, v, rfl, hu, hv⟩ := ha
 split at hr
 ·rename_i hq; injection hr with hr; subst hr; exact hc hu hv hb hq.1 hq.2
 ·cases hr
theorem gMx_eq {u v tl : T} {h : List Typ × List Ft} {l : List FSv} (hu : IsS eTyp u h.1) (hv : IsS eFt v h.2) (ht : IsS eFS tl l) (hl : l.length ≤ 100000) (ha : AllOK h l) : gMx [.ag [u, v], tl] = some (treeS eInt (mxUp h.1 l l.length)) :=
 (g2_eq (τ := tH) (σ := tSl eFS) ⟨u, v, rfl, hu, hv⟩ ht).trans (if_pos ⟨hl, ha⟩)
noncomputable def tw18c : Tbl := [(15, gHier), (16, gFits), (17, gEx), (26, gMx), (27, gMx), (20, gSI)]
theorem ctw18c : Ctx Try.prog G (orc tw18c) := (TblOK.cons gHier_ok (.cons gFits_ok (.cons gEx_ok (.cons (gMx_ok smax_call) (.cons (gMx_ok rmax_call) (.cons gSI_ok .nil)))))).ctx mixed
theorem maximal_law {t tl : T} {d : List TD} {l : List FSv} (ht : IsS eTD t d) (hd : d.length ≤ 12 → DOK d) (htl : IsS eFS tl l) : CallT Try.prog G 5 [t, tl] (· = .v (.bool true)) := by
 have gh := gHier_eq ht hd
 obtain ⟨h, hh⟩ : ∃ h, h = hOf d := ⟨_, rfl⟩
 obtain ⟨u, hu'⟩ : ∃ u, u = treeS eTyp h.1 := ⟨_, rfl⟩
 obtain ⟨v, hv'⟩ : ∃ v, v = treeS eFt h.2 := ⟨_, rfl⟩
 have hu : IsS eTyp u h.1 := hu' ▸ IsS.tree _ _
 have hv : IsS eFt v h.2 := hv' ▸ IsS.tree _ _
 have hTd : hT d = .ag [u, v] := by unfold hT; rw [← hh, hu', hv']
 rw [hTd] at gh
 have c1 : cellsP (.t (.ag [u, v])) = some [.t u, .t v] := rfl
 have a1 : agOf [.t u, .t v] = .t (.ag [u, v]) := rfl
 refine k_w09_SubsumeMaximal.call rfl ?_
 unfold M_w09_SubsumeMaximal
 refine mc_seq_runs ctw18c ?_
 simp -implicitDefEqProofs
 refine mc_seq_runs ctw18c ?_
 simp -implicitDefEqProofs [tw18c, gh, storeM, c1, splice]
 by_cases h6 : 6 < l.length
 ·have h6' : (6 : Int) < (l.length : Int) := by omega
  refine mc_seq_runs ctw18c ?_
  simp -implicitDefEqProofs [htl.len, h6, h6', tw18c, gEx_eq]
 ·have h6' : ¬ (6 : Int) < (l.length : Int) := by omega
  have gf := gFits_eq hu hv htl (by omega)
  cases hf : fitsB h.1.length h.2.length l with
  | false =>
   rw [hf] at gf
   refine mc_seq_runs ctw18c ?_
   simp -implicitDefEqProofs [htl.len, h6, h6', loadM, a1, tw18c, gf, gEx_eq]
  | true =>
   rw [hf] at gf
   have hall : AllOK h l := ⟨by rw [hh]; exact hOf_ok hd, fits_true hf⟩
   have gm := gMx_eq hu hv htl (by omega) hall
   have hml := mxUp_len h.1 l l.length
   have gs := gSI_eq2 (l := mxUp h.1 l l.length) (by omega)
   refine mc_seq_runs ctw18c ?_
   simp -implicitDefEqProofs [htl.len, h6, h6', loadM, a1, tw18c, gf]
   refine mc_runs ctw18c ?_
   simp -implicitDefEqProofs [loadM, a1, tw18c, gm, gs, gEx_eq]
theorem and_not_iff {x y : W} : x &&& ~~~ y = 0 ↔ ∀ i, x.getLsbD i = true → y.getLsbD i = true := by
 constructor
 ·intro h i hx
  have h1 := congrArg (fun v : W => v.getLsbD i) h
  simp only [BitVec.getLsbD_and, BitVec.getLsbD_not, hx, Bool.true_and] at h1
  have hi : i < 64 := by
   apply Classical.byContradiction
   intro hn
   rw [BitVec.getLsbD_of_ge _ _ (by omega)] at hx
   cases hx
  simp [hi] at h1
  exact h1
 ·intro h
  refine BitVec.eq_of_getLsbD_eq fun i hi => ?_
  simp only [BitVec.getLsbD_and, BitVec.getLsbD_not]
  cases hx : x.getLsbD i with
  | false => simp
  | true => simp [h i hx]
theorem subL_refl (l : List W) : subL l l = true := (subL_iff l l).2 fun i => and_not_iff.2 fun _ h => h
theorem subL_trans {l m n : List W} (h : subL l m = true) (h' : subL m n = true) : subL l n = true :=
 (subL_iff l n).2 fun i => and_not_iff.2 fun j hj => and_not_iff.1 ((subL_iff m n).1 h' i) j (and_not_iff.1 ((subL_iff l m).1 h i) j hj)
theorem subL_anti {l m : List W} (h : subL l m = true) (h' : subL m l = true) (i : Nat) : wd l i = wd m i := by
 refine BitVec.eq_of_getLsbD_eq fun j _ => ?_
 have h1 := and_not_iff.1 ((subL_iff l m).1 h i) j
 have h2 := and_not_iff.1 ((subL_iff m l).1 h' i) j
 cases hx : (wd l i).getLsbD j with
 | true => exact (h1 hx).symm
 | false =>
  cases hy : (wd m i).getLsbD j with
  | false => rfl
  | true => rw [h2 hy] at hx; cases hx
theorem hsub_refl {ty : List Typ} {s : Int} (h0 : 0 ≤ s) (h : s < (ty.length : Int)) : hsub ty s s = true := by
 have : ty[s.toNat]? = some ty[s.toNat] := List.getElem?_eq_getElem (by omega)
 simp only [hsub, this]
 exact subL_refl _
theorem hsub_trans {ty : List Typ} {s t u : Int} (h : hsub ty s t = true) (h' : hsub ty t u = true) : hsub ty s u = true := by
 unfold hsub at h h' ⊢
 cases hs : ty[s.toNat]? with
 | none => rw [hs] at h; simp at h
 | some x =>
  cases ht : ty[t.toNat]? with
  | none => rw [hs, ht] at h; simp at h
  | some y =>
   cases hu : ty[u.toNat]? with
   | none => rw [ht, hu] at h'; simp at h'
   | some z =>
    rw [hs, ht] at h
    rw [ht, hu] at h'
    exact subL_trans h' h
section
variable {nt nf : Nat} {ty : List Typ} {a b c : List Nd}
def idN (n : Nat) : List Int := (List.range n).map fun i : Nat => (i : Int)
theorem nAt_idN {n i : Nat} (h : i < n) : nAt (idN n) i = (i : Int) := nAt_val (by simp [idN, List.getElem?_range h])
def compM (m n : List Int) : List Int := m.map fun i => nAt n i.toNat
theorem nAt_comp {m n : List Int} {i : Nat} (h : i < m.length) : nAt (compM m n) i = nAt n (nAt m i).toNat := by
 refine nAt_val ?_
 unfold compM
 rw [List.getElem?_map, nAt_get h]
 rfl
theorem ndAt_get {l : List Nd} {k : Int} (h0 : 0 ≤ k) (h : k < (l.length : Int)) : l[k.toNat]? = some (ndAt l k) := by
 have : k.toNat < l.length := by omega
 simp [ndAt, List.getElem?_eq_getElem this]
theorem tgt_mem {x : Nd} (hx : ∀ (i j : Nat) p q, i < j → x.arcs[i]? = some p → x.arcs[j]? = some q → p.feat ≠ q.feat) {d : Arc} (hd : d ∈ x.arcs) : tgt x d.feat = d.to := by
 obtain ⟨n, h1, h2, h3⟩ := tgt_idx x d.feat
 obtain ⟨j, hj, e⟩ := List.getElem_of_mem hd
 have hj' : x.arcs[j]? = some d := by rw [List.getElem?_eq_getElem hj, e]
 rcases h3 with ⟨h4, h5, h6⟩ | ⟨q, h4, h5, h6, _⟩
 ·exact absurd rfl (h2 j d (by omega) hj')
 ·rw [h6]
  rcases Nat.lt_trichotomy j n with hlt | heq | hgt
  ·exact absurd rfl (h2 j d hlt hj')
  ·subst heq
   rw [h4] at hj'
   injection hj' with hj'
   rw [hj']
  ·exact absurd h5 (hx n j q d hgt h4 hj')
theorem mor_id (ha : Valid ty.length nf a) : Mor ty a a (idN a.length) := by
 have hat : ∀ {i : Nat} {x : Nd}, a[i]? = some x → ndAt a (nAt (idN a.length) i) = x := fun {i x} hx => by
  rw [nAt_idN (List.getElem?_eq_some_iff.1 hx).1]
  exact ndAt_of hx
 refine ⟨by simp [idN], by rw [nAt_idN ha.form.pos]; rfl, fun i hi => by rw [nAt_idN hi]; omega, fun i x hx => ?_, fun i x hx d hd => ?_⟩
 ·rw [hat hx]
  have hm := List.mem_of_getElem? hx
  exact hsub_refl (ha.form.type x hm) (ha.type x hm)
 ·rw [hat hx]
  have hm := List.mem_of_getElem? hx
  obtain ⟨h0, h1⟩ := ha.form.to x hm d hd
  rw [tgt_mem (ha.form.apart x hm) hd, nAt_idN (by omega)]
  omega
theorem mor_comp {m n : List Int} (ha : Valid nt nf a) (h : Mor ty a b m) (h' : Mor ty b c n) : Mor ty a c (compM m n) := by
 have hc : ∀ i, i < a.length → nAt (compM m n) i = nAt n (nAt m i).toNat := fun i hi => nAt_comp (by rw [h.len]; exact hi)
 refine ⟨by simp [compM, h.len], ?_, fun i hi => ?_, fun i x hx => ?_, fun i x hx d hd => ?_⟩
 ·rw [hc 0 ha.form.pos, h.root]
  exact h'.root
 ·rw [hc i hi]
  have := h.rng i hi
  exact h'.rng _ (by omega)
 ·have hi := (List.getElem?_eq_some_iff.1 hx).1
  rw [hc i hi]
  obtain ⟨h0, h1⟩ := h.rng i hi
  exact hsub_trans (h.type i x hx) (h'.type _ _ (ndAt_get h0 h1))
 ·have hi := (List.getElem?_eq_some_iff.1 hx).1
  have hdm := ha.form.to x (List.mem_of_getElem? hx) d hd
  obtain ⟨h0, h1⟩ := h.rng i hi
  have hto := h.arc i x hx d hd
  obtain ⟨g0, g1⟩ := h.rng d.to.toNat (by omega)
  rw [hc i hi, hc d.to.toNat (by omega), ← hto]
  rw [← hto] at g0
  obtain ⟨q, hq, e⟩ := mem_tgt g0
  have hfeat : ∃ q ∈ (ndAt b (nAt m i)).arcs, q.feat = d.feat ∧ tgt (ndAt b (nAt m i)) d.feat = q.to := by
   obtain ⟨k, _, _, h3⟩ := tgt_idx (ndAt b (nAt m i)) d.feat
   rcases h3 with ⟨_, h5, _⟩ | ⟨q, h4, h5, h6, _⟩
   ·omega
   ·exact ⟨q, List.mem_of_getElem? h4, h5, h6⟩
  obtain ⟨q, hq, e1, e2⟩ := hfeat
  have := h'.arc _ _ (ndAt_get h0 h1) q hq
  rw [e1] at this
  rw [this, e2]
theorem comp_id {m n : List Int} (ha : Valid ty.length nf a) (h : Mor ty a b m) (h' : Mor ty b a n) : ∀ i, i < a.length → nAt n (nAt m i).toNat = (i : Int) := by
 intro i hi
 have e := (mor_comp ha h h').uniq ha (mor_id ha)
 have : nAt (compM m n) i = nAt (idN a.length) i := by rw [e]
 rw [nAt_comp (by rw [h.len]; exact hi), nAt_idN hi] at this
 exact this
theorem morB_iff : morB ty a b = true ↔ ∃ m, Mor ty a b m := by
 unfold morB
 exact @decide_eq_true_iff _ (_)
theorem morB_refl (ha : Valid ty.length nf a) : morB ty a a = true := morB_iff.2 ⟨_, mor_id ha⟩
theorem morB_trans (ha : Valid nt nf a) (h : morB ty a b = true) (h' : morB ty b c = true) : morB ty a c = true := by
 obtain ⟨m, hm⟩ := morB_iff.1 h
 obtain ⟨n, hn⟩ := morB_iff.1 h'
 exact morB_iff.2 ⟨_, mor_comp ha hm hn⟩
end
def AscLe (l : List Arc) : Prop := l.Pairwise fun p q => p.feat ≤ q.feat
def Asc (l : List Arc) : Prop := l.Pairwise fun p q => p.feat < q.feat
theorem posA_spec (l : List Arc) (f : Int) : ∀ k, k ≤ l.length → (∀ (j : Nat) y, posA l f k ≤ j → j < k → l[j]? = some y → f < y.feat) ∧ (0 < posA l f k → ∃ y, l[posA l f k - 1]? = some y ∧ y.feat ≤ f)
 | 0, _ => ⟨fun j y _ h => by omega, fun h => by simp [posA] at h⟩
 | k + 1, hk => by
  obtain ⟨h1, h2⟩ := posA_spec l f k (by omega)
  obtain ⟨y, hy⟩ : ∃ y, l[k]? = some y := ⟨_, List.getElem?_eq_getElem (by omega)⟩
  by_cases hc : f < y.feat
  ·have e : posA l f (k + 1) = posA l f k := by simp only [posA, hy, if_pos hc]
   rw [e]
   refine ⟨fun j z h3 h4 hz => ?_, h2⟩
   by_cases ej : j = k
   ·rw [ej, hy] at hz
    injection hz with hz
    rw [← hz]; exact hc
   ·exact h1 j z h3 (by omega) hz
  ·have e : posA l f (k + 1) = k + 1 := by simp only [posA, hy, if_neg hc]
   rw [e]
   exact ⟨fun j z h3 h4 => by omega, fun _ => ⟨y, by simpa using hy, by omega⟩⟩
theorem insA_asc {x : Arc} {l : List Arc} (h : AscLe l) : AscLe (insA x l) := by
 obtain ⟨h1, h2⟩ := posA_spec l x.feat l.length (Nat.le_refl _)
 have hle := posA_le l x.feat l.length
 have hp := List.pairwise_iff_getElem.1 h
 unfold insA AscLe
 obtain ⟨p, hpe⟩ : ∃ p, p = posA l x.feat l.length := ⟨_, rfl⟩
 rw [← hpe] at h1 h2 hle ⊢
 have lo : ∀ y ∈ l.take p, y.feat ≤ x.feat := by
  intro y hy
  obtain ⟨j, hj, e⟩ := List.getElem_of_mem hy
  rw [List.length_take] at hj
  obtain ⟨z, hz, hz'⟩ := h2 (by omega)
  have hj' : l[j]? = some y := by
   rw [← e, List.getElem_take]
   exact List.getElem?_eq_getElem (by omega)
  by_cases ej : j = p - 1
  ·rw [← ej, hj'] at hz
   injection hz with hz
   rw [hz]; exact hz'
  ·have := hp j (p - 1) (by omega) (by omega) (by omega)
   rw [(List.getElem?_eq_some_iff.1 hj').2, (List.getElem?_eq_some_iff.1 hz).2] at this
   omega
 have hi : ∀ y ∈ l.drop p, x.feat ≤ y.feat := by
  intro y hy
  obtain ⟨j, hj, e⟩ := List.getElem_of_mem hy
  rw [List.length_drop] at hj
  have hj' : l[p + j]? = some y := by
   rw [← e, List.getElem_drop]
   exact List.getElem?_eq_getElem (by omega)
  have := h1 (p + j) y (by omega) (by omega) hj'
  omega
 have ht : (l.take p).Pairwise fun p q => p.feat ≤ q.feat := h.sublist (List.take_sublist _ _)
 have hd : (l.drop p).Pairwise fun p q => p.feat ≤ q.feat := h.sublist (List.drop_sublist _ _)
 rw [List.append_assoc, List.pairwise_append]
 refine ⟨ht, ?_, fun y hy z hz => ?_⟩
 ·simp only [List.singleton_append, List.pairwise_cons]
  exact ⟨hi, hd⟩
 ·simp only [List.singleton_append, List.mem_cons] at hz
  rcases hz with rfl | hz
  ·exact lo y hy
  ·have := lo y hy
   have := hi z hz
   omega
theorem sortA_asc (l : List Arc) : AscLe (sortA l) := by
 have : ∀ i, AscLe (sortUp l i) := by
  intro i
  induction i with
  | zero => exact List.Pairwise.nil
  | succ i ih =>
   simp only [sortUp]
   split
   ·exact insA_asc ih
   ·exact ih
 exact this _
theorem asc_eq : ∀ {l m : List Arc}, Asc l → Asc m → (∀ x, x ∈ l ↔ x ∈ m) → l = m
 | [], [], _, _, _ => rfl
 | [], y :: m, _, _, h => by have := (h y).2 List.mem_cons_self; cases this
 | x :: l, [], _, _, h => by have := (h x).1 List.mem_cons_self; cases this
 | x :: l, y :: m, hl, hm, h => by
  have hl' := List.pairwise_cons.1 hl
  have hm' := List.pairwise_cons.1 hm
  have e : x = y := by
   rcases List.mem_cons.1 ((h x).1 List.mem_cons_self) with e | hx
   ·exact e
   ·rcases List.mem_cons.1 ((h y).2 List.mem_cons_self) with e | hy
    ·exact e.symm
    ·have := hm'.1 x hx
     have := hl'.1 y hy
     omega
  subst e
  rw [asc_eq hl'.2 hm'.2 fun z => ⟨fun hz => ?_, fun hz => ?_⟩]
  ·rcases List.mem_cons.1 ((h z).1 (List.mem_cons_of_mem _ hz)) with e | hz'
   ·have := hl'.1 z hz; rw [e] at this; omega
   ·exact hz'
  ·rcases List.mem_cons.1 ((h z).2 (List.mem_cons_of_mem _ hz)) with e | hz'
   ·have := hm'.1 z hz; rw [e] at this; omega
   ·exact hz'
section
variable {g : Arc → Arc}
theorem posA_map (hg : ∀ c, (g c).feat = c.feat) (l : List Arc) (f : Int) : ∀ k, posA (l.map g) f k = posA l f k
 | 0 => rfl
 | k + 1 => by
  simp only [posA, List.getElem?_map, posA_map hg l f k]
  cases l[k]? with
  | none => rfl
  | some y => simp only [Option.map_some, hg]
theorem insA_map (hg : ∀ c, (g c).feat = c.feat) (x : Arc) (l : List Arc) : insA (g x) (l.map g) = (insA x l).map g := by
 unfold insA
 rw [posA_map hg, hg, List.length_map]
 simp
theorem sortA_map (hg : ∀ c, (g c).feat = c.feat) (l : List Arc) : sortA (l.map g) = (sortA l).map g := by
 have : ∀ i, sortUp (l.map g) i = (sortUp l i).map g := by
  intro i
  induction i with
  | zero => rfl
  | succ i ih =>
   simp only [sortUp, List.getElem?_map, ih]
   cases l[i]? with
   | none => rfl
   | some x => simp only [Option.map_some]; exact insA_map hg x _
 unfold sortA
 rw [List.length_map, this]
end
theorem fold_keep {Q : VS → Prop} {v : Nat → VS → VS} (hv : ∀ n st, Q st → nAt st.1 n < 0 → Q (v n st)) : ∀ (ar : List Arc) (st : VS), Q st → Q (ar.foldl (vStep v) st)
 | [], st, h => h
 | a :: ar, st, h => by
  rw [List.foldl_cons]
  by_cases hc : nAt st.1 a.to.toNat < 0
  ·have e : vStep v st a = v a.to.toNat st := if_pos hc
   rw [e]
   exact fold_keep hv ar _ (hv _ _ h hc)
  ·have e : vStep v st a = st := if_neg hc
   rw [e]
   exact fold_keep hv ar st h
def VK (st : VS) : Prop := ∀ m : Nat, 0 ≤ nAt st.1 m → m < st.1.length → st.2[(nAt st.1 m).toNat]? = some (m : Int)
theorem vk_vis (l : List Nd) : ∀ (k n : Nat) (st : VS), VK st → nAt st.1 n < 0 → VK (visF l k n st)
 | 0, _, _, h, _ => h
 | k + 1, n, st, h, hn => by
  refine fold_keep (vk_vis l k) (arcsAt l n) _ ?_
  have hnl := nAt_lt hn
  intro m hp hm
  simp only [List.length_set] at hm
  simp only at hp ⊢
  rw [nAt_set hnl] at hp ⊢
  by_cases e : m = n
  ·rw [if_pos e, Int.toNat_natCast, e]
   simp
  ·rw [if_neg e] at hp ⊢
   have := h m hp hm
   rw [List.getElem?_append_left (List.getElem?_eq_some_iff.1 this).1]
   exact this
theorem pre_vis (l : List Nd) : ∀ (k n : Nat) (st : VS), ∃ r, (visF l k n st).2 = st.2 ++ r
 | 0, _, st => ⟨[], by simp [visF]⟩
 | k + 1, n, st => by
  obtain ⟨r, hr⟩ := fold_keep (Q := fun s => ∃ r, s.2 = st.2 ++ ([(n : Int)] ++ r)) (v := visF l k) (fun n' s ⟨r, hr⟩ _ => by
   obtain ⟨r', hr'⟩ := pre_vis l k n' s
   exact ⟨r ++ r', by rw [hr', hr]; simp⟩) (arcsAt l n) (st.1.set n (st.2.length : Int), st.2 ++ [(n : Int)]) ⟨[], by simp⟩
  exact ⟨_, hr⟩
theorem head_vis (l : List Nd) (k n : Nat) (st : VS) : ∃ r, (visF l (k + 1) n st).2 = st.2 ++ ([(n : Int)] ++ r) :=
 fold_keep (Q := fun s => ∃ r, s.2 = st.2 ++ ([(n : Int)] ++ r)) (v := visF l k) (fun n' s ⟨r, hr⟩ _ => by
   obtain ⟨r', hr'⟩ := pre_vis l k n' s
   exact ⟨r ++ r', by rw [hr', hr]; simp⟩) (arcsAt l n) (st.1.set n (st.2.length : Int), st.2 ++ [(n : Int)]) ⟨[], by simp⟩
section
variable {nf : Nat} {ty : List Typ} {a b : List Nd}
theorem Valid.at' (ha : Valid ty.length nf a) : (visA a 0).2.length = a.length ∧ ∀ (i : Nat) x, a[i]? = some x → ∃ n, (visA a 0).2[i]? = some n ∧ x.type = (ndAt a n).type ∧ x.arcs = renA (visA a 0).1 (sortA (ndAt a n).arcs) := by
 have hl : (visA a 0).2.length = a.length := by
  have := congrArg List.length ha.canon
  simp [fromL] at this
  exact this.symm
 refine ⟨hl, fun i x hx => ?_⟩
 have hi := (List.getElem?_eq_some_iff.1 hx).1
 obtain ⟨n, hn⟩ : ∃ n, (visA a 0).2[i]? = some n := ⟨_, List.getElem?_eq_getElem (by omega)⟩
 have h1 : (a.map Nd.key)[i]? = some x.key := by rw [List.getElem?_map, hx]; rfl
 have h2 : ((fromL a 0).map Nd.key)[i]? = some (gNode (visA a 0).1 (ndAt a n)).key := by
  unfold fromL
  rw [List.getElem?_map, List.getElem?_map, hn]
  rfl
 rw [ha.canon, h2] at h1
 injection h1 with h1
 injection h1 with h3 h4
 exact ⟨n, hn, h3.symm, h4.symm⟩
theorem Valid.asc (ha : Valid ty.length nf a) {x : Nd} (hx : x ∈ a) : Asc x.arcs := by
 obtain ⟨i, hi, e⟩ := List.getElem_of_mem hx
 obtain ⟨n, _, _, h3⟩ := ha.at'.2 i x (by rw [List.getElem?_eq_getElem hi, e])
 have h4 : AscLe x.arcs := by
  rw [h3]
  unfold renA AscLe
  rw [List.pairwise_map]
  exact sortA_asc _
 refine List.pairwise_iff_getElem.2 fun p q hp hq hpq => ?_
 have h5 := List.pairwise_iff_getElem.1 h4 p q hp hq hpq
 have h6 := ha.form.apart x hx p q _ _ hpq (List.getElem?_eq_getElem hp) (List.getElem?_eq_getElem hq)
 omega
theorem Valid.ord (ha : Valid ty.length nf a) : (visA a 0).2 = idN a.length := by
 obtain ⟨hvi, hvj⟩ := visA_ok ha.form.to ha.form.pos
 obtain ⟨hl, hat⟩ := ha.at'
 have hpos := ha.form.pos
 have hk : VK (visA a 0) := by
  refine vk_vis a a.length 0 (start a) (fun m hp hm => ?_) (by show nAt (List.replicate a.length (-1)) 0 < 0; rw [nAt_rep hpos]; omega)
  have hm' : m < a.length := by simpa [start] using hm
  have : nAt (start a).1 m = -1 := nAt_rep hm'
  omega
 have hroot : nAt (visA a 0).2 0 = 0 := by
  obtain ⟨k, hk⟩ : ∃ k, a.length = k + 1 := ⟨a.length - 1, by omega⟩
  obtain ⟨r, hr⟩ := head_vis a k 0 (start a)
  refine nAt_val ?_
  unfold visA
  rw [hk, hr]
  rfl
 have hm : Mor ty a a (visA a 0).2 := by
  refine ⟨hl, hroot, fun i hi => ?_, fun i x hx => ?_, fun i x hx c hc => ?_⟩
  ·obtain ⟨h1, h2, _⟩ := hvj.at' i _ (nAt_get (by omega))
   exact ⟨h1, h2⟩
  ·obtain ⟨n, hn, h1, _⟩ := hat i x hx
   rw [nAt_val hn, ← h1]
   have hxm := List.mem_of_getElem? hx
   exact hsub_refl (ha.form.type x hxm) (ha.type x hxm)
  ·obtain ⟨n, hn, _, h2⟩ := hat i x hx
   obtain ⟨g0, g1, _⟩ := hvj.at' i n hn
   have hc' := hc
   rw [h2] at hc'
   obtain ⟨d, hd, e⟩ := List.mem_map.1 hc'
   have hd := sortA_mem.1 hd
   have hnm := List.mem_of_getElem? (ndAt_get g0 g1)
   obtain ⟨d0, d1⟩ := ha.form.to _ hnm d hd
   have c0 := (ha.form.to x (List.mem_of_getElem? hx) c hc).1
   rw [nAt_val hn, ← e]
   rw [← e] at c0
   simp only at c0 ⊢
   rw [tgt_mem (ha.form.apart _ hnm) hd]
   have := hk d.to.toNat c0 (by rw [hvi.len]; omega)
   rw [nAt_val this]
   omega
 exact hm.uniq ha (mor_id ha)
structure Img (m : List Int) (n : Nat) (st st' : VS) : Prop where
 len : st.1.length = n
 len' : st'.1.length = n
 ord : st'.2 = st.2.map fun i => nAt m i.toNat
 num : ∀ i, i < n → nAt st'.1 (nAt m i).toNat = nAt st.1 i
theorem img_vis {m : List Int} {n : Nat} (hlen : a.length = n) (hto : ∀ x ∈ a, ∀ c ∈ x.arcs, 0 ≤ c.to ∧ c.to < (a.length : Int))
  (hrng : ∀ i, i < n → 0 ≤ nAt m i ∧ nAt m i < (n : Int)) (hinj : ∀ i j, i < n → j < n → nAt m i = nAt m j → i = j)
  (harc : ∀ i, i < n → arcsAt b (nAt m i).toNat = (arcsAt a i).map fun c => ⟨c.feat, nAt m c.to.toNat⟩) :
  ∀ (k i : Nat) (st st' : VS), i < n → Img m n st st' → Img m n (visF a k i st) (visF b k (nAt m i).toNat st')
 | 0, _, _, _, _, h => h
 | k + 1, i, st, st', hi, h => by
  have IH := img_vis hlen hto hrng hinj harc k
  have hri := hrng i hi
  have hset : ∀ v : Int, ∀ j, j < n → nAt (st'.1.set (nAt m i).toNat v) (nAt m j).toNat = nAt (st.1.set i v) j := by
   intro v j hj
   have hrj := hrng j hj
   rw [nAt_set (by rw [h.len']; omega), nAt_set (by rw [h.len]; exact hi)]
   by_cases e : j = i
   ·rw [if_pos e, if_pos (by rw [e])]
   ·rw [if_neg e, if_neg (fun e' => e (hinj j i hj hi (by omega)))]
    exact h.num j hj
  have h0 : Img m n (st.1.set i (st.2.length : Int), st.2 ++ [(i : Int)]) (st'.1.set (nAt m i).toNat (st'.2.length : Int), st'.2 ++ [((nAt m i).toNat : Int)]) := by
   have hl : st'.2.length = st.2.length := by rw [h.ord]; simp
   refine ⟨by simp [h.len], by simp [h.len'], ?_, fun j hj => ?_⟩
   ·simp only [List.map_append, List.map_cons, List.map_nil, Int.toNat_natCast]
    rw [h.ord]
    congr 2
    omega
   ·simp only
    rw [hl]
    exact hset _ j hj
  have fold : ∀ (ar : List Arc) (s s' : VS), (∀ c ∈ ar, 0 ≤ c.to ∧ c.to < (n : Int)) → Img m n s s' → Img m n (ar.foldl (vStep (visF a k)) s) ((ar.map fun c => (⟨c.feat, nAt m c.to.toNat⟩ : Arc)).foldl (vStep (visF b k)) s') := by
   intro ar
   induction ar with
   | nil => intro s s' _ hs; exact hs
   | cons c ar ih =>
    intro s s' hc hs
    obtain ⟨c0, c1⟩ := hc c List.mem_cons_self
    have hcn : c.to.toNat < n := by omega
    simp only [List.map_cons, List.foldl_cons]
    refine ih _ _ (fun d hd => hc d (List.mem_cons_of_mem _ hd)) ?_
    have hnum := hs.num c.to.toNat hcn
    unfold vStep
    simp only
    rw [hnum]
    by_cases hneg : nAt s.1 c.to.toNat < 0
    ·rw [if_pos hneg, if_pos hneg]
     exact IH _ s s' hcn hs
    ·rw [if_neg hneg, if_neg hneg]
     exact hs
  unfold visF
  rw [harc i hi]
  refine fold _ _ _ (fun c hc => ?_) h0
  unfold arcsAt at hc
  split at hc
  ·rename_i x hx
   have := hto x (List.mem_of_getElem? hx) c (sortA_mem.1 hc)
   omega
  ·cases hc
def TyInj (ty : List Typ) : Prop := ∀ (i j : Nat) x y, ty[i]? = some x → ty[j]? = some y → subL x.code y.code = true → subL y.code x.code = true → i = j
theorem mor_len {m n : List Int} (ha : Valid ty.length nf a) (h : Mor ty a b m) (h' : Mor ty b a n) : a.length ≤ b.length := by
 have hid := comp_id ha h h'
 have hnd : m.Nodup := by
  rw [List.nodup_iff_pairwise_ne, List.pairwise_iff_getElem]
  intro i j hi hj hij e
  have e1 := nAt_get hi
  have e2 := nAt_get hj
  rw [List.getElem?_eq_getElem hi] at e1
  rw [List.getElem?_eq_getElem hj] at e2
  injection e1 with e1
  injection e2 with e2
  have h1 := hid i (by rw [← h.len]; exact hi)
  have h2 := hid j (by rw [← h.len]; exact hj)
  rw [← e1, e, e2, h2] at h1
  omega
 have := nodup_le (l := m) (m := idN b.length) hnd fun x hx => by
  obtain ⟨i, hi, e⟩ := List.getElem_of_mem hx
  have := h.rng i (by rw [← h.len]; exact hi)
  have e1 := nAt_get hi
  rw [List.getElem?_eq_getElem hi, e] at e1
  injection e1 with e1
  rw [← e1] at this
  refine List.mem_map.2 ⟨x.toNat, List.mem_range.2 (by omega), by omega⟩
 rw [h.len] at this
 simpa [idN] using this
theorem anti {m n : List Int} (hty : TyInj ty) (ha : Valid ty.length nf a) (hb : Valid ty.length nf b) (h : Mor ty a b m) (h' : Mor ty b a n) : a.map Nd.key = b.map Nd.key := by
 have hab := mor_len ha h h'
 have hba := mor_len hb h' h
 have hlen : a.length = b.length := by omega
 have hid := comp_id ha h h'
 have hrng : ∀ i, i < a.length → 0 ≤ nAt m i ∧ nAt m i < (a.length : Int) := fun i hi => by
  have := h.rng i hi
  omega
 have hinj : ∀ i j, i < a.length → j < a.length → nAt m i = nAt m j → i = j := fun i j hi hj e => by
  have h1 := hid i hi
  have h2 := hid j hj
  rw [e, h2] at h1
  omega
 have arcs : ∀ (i : Nat) x, a[i]? = some x → (ndAt b (nAt m i)).arcs = x.arcs.map fun c => ⟨c.feat, nAt m c.to.toNat⟩ := by
  intro i x hx
  have hi := (List.getElem?_eq_some_iff.1 hx).1
  have hxm := List.mem_of_getElem? hx
  obtain ⟨r0, r1⟩ := h.rng i hi
  have hbg := ndAt_get r0 r1
  have hbm := List.mem_of_getElem? hbg
  refine asc_eq (hb.asc hbm) ?_ fun q => ⟨fun hq => ?_, fun hq => ?_⟩
  ·unfold Asc
   rw [List.pairwise_map]
   exact ha.asc hxm
  ·have hq1 := h'.arc _ _ hbg q hq
   rw [hid i hi, ndAt_of hx] at hq1
   have hqb := hb.form.to _ hbm q hq
   have hq2 := (h'.rng q.to.toNat (by omega)).1
   rw [← hq1] at hq2
   obtain ⟨k, _, _, h3⟩ := tgt_idx x q.feat
   rcases h3 with ⟨_, h5, _⟩ | ⟨d, h4, h5, h6, _⟩
   ·omega
   ·have hd := List.mem_of_getElem? h4
    have h7 := h.arc i x hx d hd
    rw [h5, tgt_mem (hb.form.apart _ hbm) hq] at h7
    refine List.mem_map.2 ⟨d, hd, ?_⟩
    cases q
    simp only at h5 h7
    rw [h5, h7]
  ·obtain ⟨d, hd, e⟩ := List.mem_map.1 hq
   have h7 := h.arc i x hx d hd
   have hdt := ha.form.to x hxm d hd
   have h8 := (h.rng d.to.toNat (by omega)).1
   rw [← h7] at h8
   obtain ⟨k, _, _, h3⟩ := tgt_idx (ndAt b (nAt m i)) d.feat
   rcases h3 with ⟨_, h5, _⟩ | ⟨p, h4, h5, h6, _⟩
   ·omega
   ·have hp := List.mem_of_getElem? h4
    have : q = p := by
     rw [← e]
     cases p
     simp only at h5 h6
     rw [← h5, ← h7, ← h6]
    rw [this]; exact hp
 have harc : ∀ i, i < a.length → arcsAt b (nAt m i).toNat = (arcsAt a i).map fun c => ⟨c.feat, nAt m c.to.toNat⟩ := by
  intro i hi
  have hx : a[i]? = some a[i] := List.getElem?_eq_getElem hi
  obtain ⟨r0, r1⟩ := h.rng i hi
  have hbg := ndAt_get r0 r1
  unfold arcsAt
  rw [hbg, hx]
  simp only
  rw [arcs i _ hx]
  exact sortA_map (g := fun c => (⟨c.feat, nAt m c.to.toNat⟩ : Arc)) (fun _ => rfl) _
 have himg := img_vis (b := b) rfl ha.form.to hrng hinj harc a.length 0 (start a) (start b) ha.form.pos ⟨by simp [start], by simp [start, hlen], rfl, fun i hi => by
  show nAt (List.replicate b.length (-1)) _ = nAt (List.replicate a.length (-1)) i
  have := hrng i hi
  rw [nAt_rep (by omega), nAt_rep hi]⟩
 have hord := himg.ord
 rw [h.root] at hord
 have e1 : (visF a a.length 0 (start a)).2 = idN a.length := ha.ord
 have e2 : (visF b a.length (0 : Int).toNat (start b)).2 = idN b.length := by rw [hlen]; exact hb.ord
 rw [e1, e2] at hord
 have hm : ∀ i, i < a.length → nAt m i = (i : Int) := by
  intro i hi
  have h1 : (idN b.length)[i]? = some (i : Int) := by simp [idN, List.getElem?_range (by omega : i < b.length)]
  rw [hord, List.getElem?_map] at h1
  have h2 : (idN a.length)[i]? = some (i : Int) := by simp [idN, List.getElem?_range hi]
  rw [h2] at h1
  simp only [Option.map_some, Int.toNat_natCast] at h1
  injection h1
 refine List.ext_getElem (by simpa using hlen) fun i hi hi' => ?_
 simp only [List.length_map] at hi hi'
 have hx : a[i]? = some a[i] := List.getElem?_eq_getElem hi
 have hy : b[i]? = some b[i] := List.getElem?_eq_getElem hi'
 have hnb : ndAt b (nAt m i) = b[i] := by rw [hm i hi]; exact ndAt_of hy
 simp only [List.getElem_map, Nd.key]
 have hA := arcs i _ hx
 rw [hnb] at hA
 have hmap : (a[i].arcs.map fun c => (⟨c.feat, nAt m c.to.toNat⟩ : Arc)) = a[i].arcs := by
  have : a[i].arcs.map (fun c => (⟨c.feat, nAt m c.to.toNat⟩ : Arc)) = a[i].arcs.map id := List.map_congr_left fun c hc => by
   have := ha.form.to _ (List.getElem_mem hi) c hc
   rw [hm c.to.toNat (by omega)]
   cases c
   simp only at this ⊢
   simp only [id]
   congr 1
   omega
  rw [this, List.map_id]
 rw [hmap] at hA
 have ht1 := h.type i _ hx
 rw [hnb] at ht1
 have hni : nAt n i = (i : Int) := by
  have := hid i hi
  rw [hm i hi, Int.toNat_natCast] at this
  exact this
 have ht2 := h'.type i _ hy
 rw [hni, ndAt_of hx] at ht2
 have hat := ha.form.type _ (List.getElem_mem hi)
 have hbt := hb.form.type _ (List.getElem_mem hi')
 have ham := ha.type _ (List.getElem_mem hi)
 have hbm := hb.type _ (List.getElem_mem hi')
 obtain ⟨p, q, x, y, ep, eq', hxp, hyq, e3⟩ := hsub_at (ty := ty) ⟨hat, ham⟩ ⟨hbt, hbm⟩
 obtain ⟨q2, p2, y2, x2, eq2, ep2, hy2, hx2, e4⟩ := hsub_at (ty := ty) ⟨hbt, hbm⟩ ⟨hat, ham⟩
 have hpp : p2 = p := by omega
 have hqq : q2 = q := by omega
 rw [hpp, hxp] at hx2
 rw [hqq, hyq] at hy2
 injection hx2 with hx2
 injection hy2 with hy2
 rw [e3] at ht1
 rw [e4, ← hx2, ← hy2] at ht2
 have := hty p q x y hxp hyq ht2 ht1
 rw [ep, eq', this, hA]
theorem key_mor (ha : Valid ty.length nf a) (h : a.map Nd.key = b.map Nd.key) : Mor ty a b (idN a.length) := by
 have hlen : a.length = b.length := by simpa using congrArg List.length h
 have hk : ∀ (i : Nat) x, a[i]? = some x → (ndAt b (nAt (idN a.length) i)).key = x.key := by
  intro i x hx
  have hi := (List.getElem?_eq_some_iff.1 hx).1
  have hy : b[i]? = some b[i] := List.getElem?_eq_getElem (by omega)
  rw [nAt_idN hi, ndAt_of hy]
  have h1 : (a.map Nd.key)[i]? = some x.key := by rw [List.getElem?_map, hx]; rfl
  have h2 : (b.map Nd.key)[i]? = some (b[i]).key := by rw [List.getElem?_map, hy]; rfl
  rw [h, h2] at h1
  injection h1
 have hid := mor_id ha
 have hat : ∀ {i : Nat} {x : Nd}, a[i]? = some x → ndAt a (nAt (idN a.length) i) = x := fun {i x} hx => by
  rw [nAt_idN (List.getElem?_eq_some_iff.1 hx).1]
  exact ndAt_of hx
 refine ⟨hid.len, hid.root, fun i hi => by have := hid.rng i hi; omega, fun i x hx => ?_, fun i x hx c hc => ?_⟩
 ·have h1 := hid.type i x hx
  rw [hat hx] at h1
  have h2 := hk i x hx
  injection h2 with h2 _
  rw [h2]; exact h1
 ·have h1 := hid.arc i x hx c hc
  rw [hat hx] at h1
  have h2 := hk i x hx
  injection h2 with _ h2
  rw [← h1]
  unfold tgt
  rw [h2]
end
theorem put_nodup {l : List Str} {s : Str} (h : l.Nodup) (hs : s ∉ l) : (put l s).Nodup := by
 unfold put
 simp only
 split
 ·exact h
 ·rw [List.append_assoc]
  refine (List.Perm.nodup_iff List.perm_middle).2 ?_
  show (s :: (l.take _ ++ l.drop _)).Nodup
  rw [List.take_append_drop]
  exact List.nodup_cons.2 ⟨hs, h⟩
theorem names_nodup {d : List TD} (hg : Good d) : (names d).Nodup := by
 have key : ∀ j, j ≤ d.length → (namesUpTo d j).Nodup ∧ ∀ s ∈ namesUpTo d j, ∃ (i : Nat) (x : TD), i < j ∧ d[i]? = some x ∧ x.name = s := by
  intro j
  induction j with
  | zero => exact fun _ => ⟨by simp [namesUpTo], fun s hs => by simp [namesUpTo] at hs⟩
  | succ j ih =>
   intro hj
   obtain ⟨h1, h2⟩ := ih (by omega)
   have hx : d[j]? = some d[j] := List.getElem?_eq_getElem (by omega)
   rw [namesUpTo_succ hx]
   refine ⟨put_nodup h1 fun hm => ?_, fun s hs => ?_⟩
   ·obtain ⟨i, y, hi, hy, e⟩ := h2 _ hm
    have a1 := hg.idx i y hy
    have a2 := hg.idx j _ hx
    rw [e, a2] at a1
    omega
   ·rcases mem_put.1 hs with hs | hs
    ·obtain ⟨i, y, hi, hy, e⟩ := h2 s hs
     exact ⟨i, y, by omega, hy, e⟩
    ·exact ⟨j, _, by omega, hx, hs.symm⟩
 have := (key d.length (Nat.le_refl _)).1
 unfold namesUpTo at this
 rw [List.take_length] at this
 exact this
def Apart (l : List (List W)) : Prop := l.Nodup ∧ ∀ x ∈ l, Norm x
theorem codesOf_apart {d : List TD} (hg : Good d) : Apart (codesOf d) := by
 refine ⟨?_, fun x hx => ?_⟩
 ·unfold codesOf
  have hn := names_nodup hg
  rw [List.nodup_iff_pairwise_ne, List.pairwise_map]
  refine List.Pairwise.imp_of_mem (fun {a b} ha hb hab e => ?_) hn
  refine hab (code_inj hg ha hb ?_)
  rw [e]
  unfold eqS
  rw [subL_refl]
  rfl
 ·unfold codesOf at hx
  obtain ⟨s, _, rfl⟩ := List.mem_map.1 hx
  unfold codeW
  exact norm_normL _
theorem famStep_apart {i : Nat} {l : List (List W)} {k : Nat} (h : Apart l) : Apart (famStep i l k) := by
 unfold famStep
 split
 ·split
  ·exact h
  ·rename_i hc
   have hin : inB l (andN (l.getD i []) (l.getD k [])) ≠ true := fun e => hc (.inr e)
   refine ⟨?_, fun x hx => ?_⟩
   ·rw [List.nodup_append]
    refine ⟨h.1, by simp, fun x hx y hy e => ?_⟩
    simp only [List.mem_singleton] at hy
    subst hy
    subst e
    exact hin (List.any_eq_true.2 ⟨_, hx, by simp⟩)
   ·rcases List.mem_append.1 hx with hx | hx
    ·exact h.2 x hx
    ·simp only [List.mem_singleton] at hx
     subst hx
     exact norm_normL _
 ·exact h
theorem family_apart {l : List (List W)} (h : Apart l) : Apart (family l) := by
 have h1 : ∀ (i : Nat) (l : List (List W)) (k : Nat), Apart l → Apart (famIn i l k) := by
  intro i l k hl
  induction k with
  | zero => exact hl
  | succ k ih => exact famStep_apart ih
 have h2 : ∀ (f i : Nat) (l : List (List W)), Apart l → Apart (famF f i l) := by
  intro f
  induction f with
  | zero => exact fun i l hl => hl
  | succ f ih =>
   intro i l hl
   unfold famF
   split
   ·exact ih _ _ (h1 i l i hl)
   ·exact hl
 exact h2 300 0 l h
theorem ins_perm (x : Co) (out : List Co) : ((ins x out).map Co.code).Perm (x.code :: out.map Co.code) := by
 unfold ins
 rw [List.append_assoc, List.map_append, List.map_append]
 refine List.perm_middle.trans ?_
 show (x.code :: ((out.take _).map Co.code ++ (out.drop _).map Co.code)).Perm _
 rw [← List.map_append, List.take_append_drop]
theorem coUp_perm (d : List TD) (all : List Str) (codes f : List (List W)) : ∀ j, j ≤ f.length → ((coUp d all codes f j).map Co.code).Perm (f.take j)
 | 0, _ => by simp [coUp]
 | j + 1, hj => by
  have hgd : f[j]? = some (f.getD j []) := by simp [List.getD_eq_getElem?_getD, show j < f.length by omega]
  simp only [coUp]
  refine (ins_perm _ _).trans ?_
  rw [List.take_add_one, hgd]
  refine List.Perm.trans (List.Perm.cons _ (coUp_perm d all codes f j (by omega))) ?_
  exact (List.perm_append_singleton _ _).symm
theorem codes_apart {d : List TD} (hg : Good d) : Apart ((codesL d).map Co.code) := by
 have h := family_apart (codesOf_apart hg)
 have hp := coUp_perm d (names d) (codesOf d) (family (codesOf d)) _ (Nat.le_refl _)
 rw [List.take_length] at hp
 exact ⟨hp.nodup_iff.2 h.1, fun x hx => h.2 x (hp.mem_iff.1 hx)⟩
theorem tyUp_code (d : List TD) : ∀ i, i ≤ (codesL d).length → (tyUp d i).map Typ.code = ((codesL d).take i).map Co.code
 | 0, _ => by simp [tyUp]
 | i + 1, h => by
  have hx : (codesL d)[i]? = some (codesL d)[i] := List.getElem?_eq_getElem (by omega)
  simp only [tyUp, hx]
  rw [List.map_append, tyUp_code d i (by omega), List.take_add_one, hx, List.map_append]
  rfl
theorem hier_inj {d : List TD} (hg : Good d) : TyInj (hierL d) := by
 have h := codes_apart hg
 have hc := tyUp_code d (codesL d).length (Nat.le_refl _)
 rw [List.take_length] at hc
 have hc : (hierL d).map Typ.code = (codesL d).map Co.code := hc
 rw [← hc] at h
 intro i j x y hx hy h1 h2
 have e : x.code = y.code := Norm.ext (h.2 _ (List.mem_map_of_mem (List.mem_of_getElem? hx))) (h.2 _ (List.mem_map_of_mem (List.mem_of_getElem? hy))) (subL_anti h1 h2)
 have g1 : ((hierL d).map Typ.code)[i]? = some x.code := by rw [List.getElem?_map, hx]; rfl
 have g2 : ((hierL d).map Typ.code)[j]? = some x.code := by rw [List.getElem?_map, hy, e]; rfl
 obtain ⟨hi, e1⟩ := List.getElem?_eq_some_iff.1 g1
 obtain ⟨hj, e2⟩ := List.getElem?_eq_some_iff.1 g2
 have hp := List.pairwise_iff_getElem.1 (List.nodup_iff_pairwise_ne.1 h.1)
 rcases Nat.lt_trichotomy i j with hlt | heq | hgt
 ·exact absurd (e1.trans e2.symm) (hp i j hi hj hlt)
 ·exact heq
 ·exact absurd (e2.trans e1.symm) (hp j i hj hi hgt)
theorem hOf_inj {d : List TD} (hd : d.length ≤ 12 → DOK d) : TyInj (hOf d).1 := by
 unfold hOf
 split
 ·rename_i h
  exact hier_inj (fit_of_check (hd h.1) h.2).good
 ·split
  ·rename_i h
   exact hier_inj (fit_of_check prel_ok h).good
  ·intro i j x y hx
   simp at hx
section
variable {nf : Nat} {ty : List Typ} {a b : List Nd}
theorem morB_anti (hty : TyInj ty) (ha : Valid ty.length nf a) (hb : Valid ty.length nf b) : (morB ty a b && morB ty b a) = eqE a b := by
 rw [Bool.eq_iff_iff, Bool.and_eq_true, morB_iff, morB_iff, eqE_iff]
 constructor
 ·rintro ⟨⟨m, hm⟩, n, hn⟩
  exact anti hty ha hb hm hn
 ·intro h
  exact ⟨⟨_, key_mor ha h⟩, _, key_mor hb h.symm⟩
theorem rel_zero (hty : TyInj ty) (ha : Valid ty.length nf a) (hb : Valid ty.length nf b) : (relM ty a b == 0) = eqE a b := by
 rw [← morB_anti hty ha hb]
 unfold relM relN
 cases morB ty a b <;> cases morB ty b a <;> rfl
theorem rel_self (ha : Valid ty.length nf a) : relM ty a a = 0 := by
 unfold relM relN
 rw [morB_refl ha]
 rfl
def oppN (x : Int) : Int := if x = 1 then 2 else if x = 2 then 1 else x
theorem rel_opp : relM ty b a = oppN (relM ty a b) := by
 unfold relM relN oppN
 cases morB ty a b <;> cases morB ty b a <;> rfl
end
theorem opposite_call (x : Int) : CallT Try.prog G 24 [iv x] (· = iv (oppN x)) := by
 refine k_w09_opposite.runs ctx0 rfl ?_
 by_cases h1 : x = 1
 ·subst h1
  simp -implicitDefEqProofs [M_w09_opposite, oppN]
 ·by_cases h2 : x = 2
  ·subst h2
   simp -implicitDefEqProofs [M_w09_opposite, oppN]
  ·have e1 : (x == 1) = false := by rw [beq_eq_false_iff_ne]; exact h1
   have e2 : (x == 2) = false := by rw [beq_eq_false_iff_ne]; exact h2
   have hr : oppN x = x := by unfold oppN; rw [if_neg h1, if_neg h2]
   simp -implicitDefEqProofs [M_w09_opposite, e1, e2, h1, h2, hr]
noncomputable def gOpp : List T → Option T := g1 tInt fun x => some (iv (oppN x))
theorem gOpp_ok : GOK Try.prog G 24 gOpp := g1_ok fun a x r ha hr => by
 obtain rfl : a = iv x := ha
 injection hr with hr; subst hr; exact opposite_call x
theorem gOpp_eq (x : Int) : gOpp [iv x] = some (iv (oppN x)) := g1_eq (τ := tInt) rfl
noncomputable def tw22 : Tbl := [(15, gHier), (16, gFits), (17, gEx), (22, gRel), (23, gRel), (24, gOpp), (25, gEqual7)]
theorem ctw22 : Ctx Try.prog G (orc tw22) := (TblOK.cons gHier_ok (.cons gFits_ok (.cons gEx_ok (.cons srel_ok (.cons rrel_ok (.cons gOpp_ok (.cons gGEqual_ok .nil))))))).ctx mixed
set_option maxHeartbeats 2000000 in
theorem compares_law {t ta tb : T} {d : List TD} {a b : List Nd} (ht : IsS eTD t d) (hd : d.length ≤ 12 → DOK d) (hta : IsS eNd ta a) (htb : IsS eNd tb b) : CallT Try.prog G 4 [t, .ag [ta], .ag [tb]] (· = .v (.bool true)) := by
 have gh := gHier_eq ht hd
 obtain ⟨h, hh⟩ : ∃ h, h = hOf d := ⟨_, rfl⟩
 obtain ⟨u, hu'⟩ : ∃ u, u = treeS eTyp h.1 := ⟨_, rfl⟩
 obtain ⟨v, hv'⟩ : ∃ v, v = treeS eFt h.2 := ⟨_, rfl⟩
 have hu : IsS eTyp u h.1 := hu' ▸ IsS.tree _ _
 have hv : IsS eFt v h.2 := hv' ▸ IsS.tree _ _
 have hTd : hT d = .ag [u, v] := by unfold hT; rw [← hh, hu', hv']
 rw [hTd] at gh
 have c1 : cellsP (.t (.ag [u, v])) = some [.t u, .t v] := rfl
 have c2 : cellsP (.t (.ag [ta])) = some [.t ta] := rfl
 have c3 : cellsP (.t (.ag [tb])) = some [.t tb] := rfl
 have a1 : agOf [.t u, .t v] = .t (.ag [u, v]) := rfl
 have a2 : agOf [.t ta] = .t (.ag [ta]) := rfl
 have a3 : agOf [.t tb] = .t (.ag [tb]) := rfl
 have hsl : IsS eFS (.sl 2 [ta, tb]) [⟨ta, a, hta⟩, ⟨tb, b, htb⟩] := .inr rfl
 have gf := gFits_eq hu hv hsl (by simp)
 have bs : bsliceM 25 1 [.slice none 0 0] 2 [(0, .t (.ag [ta])), (1, .t (.ag [tb]))] 3 = some (.row 3 0 2 1, .cells 25 [.t ta, .t tb]) := by
  rcases hta with ⟨rfl, _⟩ | rfl <;> rcases htb with ⟨rfl, _⟩ | rfl <;> rfl
 refine k_w09_SubsumeCompares.call rfl ?_
 unfold M_w09_SubsumeCompares
 refine mc_seq_runs ctw22 ?_
 simp -implicitDefEqProofs [c2, c3]
 refine mc_seq_runs ctw22 ?_
 simp -implicitDefEqProofs [tw22, gh, storeM, c1, splice]
 cases hf : fitsB h.1.length h.2.length [⟨ta, a, hta⟩, ⟨tb, b, htb⟩] with
 | false =>
  rw [hf] at gf
  refine mc_seq_runs ctw22 ?_
  simp -implicitDefEqProofs [loadM, a1, a2, a3, bs, tw22, gf, gEx_eq]
 | true =>
  rw [hf] at gf
  have hall := fits_true hf
  have hA := hall ⟨ta, a, hta⟩ (by simp)
  have hB := hall ⟨tb, b, htb⟩ (by simp)
  have hty : TyInj h.1 := by rw [hh]; exact hOf_inj hd
  have hm : MapOK h a b := ⟨by rw [hh]; exact hOf_ok hd, ⟨hA.2, hB.2⟩, hA.1, hB.1⟩
  have hmm : MapOK h a a := ⟨hm.1, ⟨hA.2, hA.2⟩, hA.1, hA.1⟩
  have g1 := gRel_eq hu hv hta htb hm
  have g2 := gRel_eq hu hv htb hta hm.symm
  have g3 := gRel_eq hu hv hta hta hmm
  have g4 := gEqual7_eq hta htb hA.1 hB.1
  rw [rel_opp (a := a) (b := b)] at g2
  rw [rel_self (nf := h.2.length) hA.2] at g3
  rw [← rel_zero (nf := h.2.length) hty hA.2 hB.2] at g4
  generalize relM h.1 a b = r at *
  have go := gOpp_eq r
  refine mc_seq_runs ctw22 ?_
  simp -implicitDefEqProofs [loadM, a1, a2, a3, bs, tw22, gf]
  refine mc_seq_runs ctw22 ?_
  simp -implicitDefEqProofs [loadM, a1, a2, a3, tw22, g1, g2]
  refine mc_runs ctw22 ?_
  simp -implicitDefEqProofs (maxDischargeDepth := 8) [loadM, a1, a2, a3, tw22, g1, g3, g4, go, gEx_eq]
theorem countP_lt {α : Type} {p q : α → Bool} : ∀ {l : List α}, (∀ x ∈ l, p x = true → q x = true) → (∃ x ∈ l, q x = true ∧ p x = false) → l.countP p < l.countP q
 | [], _, h => by obtain ⟨x, hx, _⟩ := h; cases hx
 | a :: l, h, ⟨x, hx, hq, hp⟩ => by
  have hle : l.countP p ≤ l.countP q := List.countP_mono_left fun y hy => h y (List.mem_cons_of_mem _ hy)
  rcases List.mem_cons.1 hx with rfl | hx
  ·simp only [List.countP_cons, hq, hp, if_true, Bool.false_eq_true, if_false]
   omega
  ·have ih := countP_lt (fun y hy => h y (List.mem_cons_of_mem _ hy)) ⟨x, hx, hq, hp⟩
   have ha := h a List.mem_cons_self
   simp only [List.countP_cons]
   cases hpa : p a with
   | false =>
    simp only [Bool.false_eq_true, if_false]
    omega
   | true =>
    rw [ha hpa]
    simp only [if_true]
    omega
section
variable {h : List Typ × List Ft} {l : List FSv}
theorem AllOK.at' (ha : AllOK h l) {i : Nat} (hi : i < l.length) : Valid h.1.length h.2.length (nodesAt l i) := by
 have hx : l[i]? = some l[i] := List.getElem?_eq_getElem hi
 rw [nodesAt_eq hx]
 exact (ha.2 _ (List.getElem_mem hi)).2
theorem kept_spec {ty : List Typ} {i : Nat} (hk : keptB ty l i = true) : ∀ k, k < l.length → badAt ty l i k = false := by
 intro k hk'
 have := fst_zero (of_decide_eq_true hk) k hk'
 unfold badE at this
 cases hb : badAt ty l i k with
 | false => rfl
 | true => rw [hb] at this; simp at this
theorem kept_not {ty : List Typ} {i : Nat} (hk : keptB ty l i = false) : ∃ k, k < l.length ∧ badAt ty l i k = true := by
 obtain ⟨k, hkl, _, hn⟩ := fst_cases (badE ty l i) l.length
 rcases hn with ⟨_, h0⟩ | ⟨h1, h2, _⟩
 ·unfold keptB at hk
  rw [h0] at hk
  simp at hk
 ·refine ⟨k, h1, ?_⟩
  unfold badE at h2
  cases hb : badAt ty l i k with
  | true => rfl
  | false => rw [hb] at h2; simp at h2
theorem rel_one {ty : List Typ} {a b : List Nd} : (relM ty a b == 1) = (morB ty a b && !morB ty b a) := by
 unfold relM relN
 cases morB ty a b <;> cases morB ty b a <;> rfl
theorem kept_apart (hty : TyInj h.1) (ha : AllOK h l) {k n : Nat} (hk : k < l.length) (hn : n < l.length) (h1 : keptB h.1 l k = true) (h2 : keptB h.1 l n = true) (hne : k ≠ n) : morB h.1 (nodesAt l k) (nodesAt l n) = false := by
 cases hm : morB h.1 (nodesAt l k) (nodesAt l n) with
 | false => rfl
 | true =>
  have b1 := kept_spec h2 k hk
  have b2 := kept_spec h1 n hn
  unfold badAt at b1 b2
  rw [rel_one, hm, Bool.or_eq_false_iff] at b1
  rw [Bool.or_eq_false_iff] at b2
  have hback : morB h.1 (nodesAt l n) (nodesAt l k) = true := by simpa using b1.2
  have heq := morB_anti hty (ha.at' hk) (ha.at' hn)
  rw [hm, hback] at heq
  have heq' := morB_anti hty (ha.at' hn) (ha.at' hk)
  rw [hm, hback] at heq'
  rcases Nat.lt_or_gt_of_ne hne with hlt | hgt
  ·have := b1.1
   rw [← heq] at this
   simp [hlt] at this
  ·have := b2.1
   rw [← heq'] at this
   simp [hgt] at this
theorem kept_cover (ha : AllOK h l) : ∀ (N i : Nat), i < l.length → ((List.range l.length).countP fun j => morB h.1 (nodesAt l j) (nodesAt l i)) * (l.length + 1) + i < N → ∃ k, k < l.length ∧ keptB h.1 l k = true ∧ morB h.1 (nodesAt l k) (nodesAt l i) = true
 | 0, i, _, hN => by omega
 | N + 1, i, hi, hN => by
  cases hk : keptB h.1 l i with
  | true => exact ⟨i, hi, hk, morB_refl (ha.at' hi)⟩
  | false =>
   obtain ⟨k, hkl, hb⟩ := kept_not hk
   unfold badAt at hb
   rw [Bool.or_eq_true, rel_one] at hb
   have key : morB h.1 (nodesAt l k) (nodesAt l i) = true ∧ ((List.range l.length).countP fun j => morB h.1 (nodesAt l j) (nodesAt l k)) * (l.length + 1) + k < ((List.range l.length).countP fun j => morB h.1 (nodesAt l j) (nodesAt l i)) * (l.length + 1) + i := by
    rcases hb with hb | hb
    ·rw [Bool.and_eq_true, decide_eq_true_eq, eqE_iff] at hb
     have m1 : morB h.1 (nodesAt l k) (nodesAt l i) = true := morB_iff.2 ⟨_, key_mor (ha.at' hkl) hb.2⟩
     refine ⟨m1, ?_⟩
     have hle : ((List.range l.length).countP fun j => morB h.1 (nodesAt l j) (nodesAt l k)) ≤ ((List.range l.length).countP fun j => morB h.1 (nodesAt l j) (nodesAt l i)) :=
      List.countP_mono_left fun j hj hm => morB_trans (ha.at' (List.mem_range.1 hj)) hm m1
     have := Nat.mul_le_mul_right (l.length + 1) hle
     omega
    ·rw [Bool.and_eq_true] at hb
     have hnb : morB h.1 (nodesAt l i) (nodesAt l k) = false := by simpa using hb.2
     refine ⟨hb.1, ?_⟩
     have hlt : ((List.range l.length).countP fun j => morB h.1 (nodesAt l j) (nodesAt l k)) < ((List.range l.length).countP fun j => morB h.1 (nodesAt l j) (nodesAt l i)) :=
      countP_lt (fun j hj hm => morB_trans (ha.at' (List.mem_range.1 hj)) hm hb.1) ⟨i, List.mem_range.2 hi, morB_refl (ha.at' hi), hnb⟩
     have := Nat.mul_le_mul_right (l.length + 1) (Nat.succ_le_of_lt hlt)
     rw [Nat.succ_mul] at this
     omega
   obtain ⟨k', h1, h2, h3⟩ := kept_cover ha N k hkl (by omega)
   exact ⟨k', h1, h2, morB_trans (ha.at' h1) h3 key.1⟩
theorem mem_mxUp {ty : List Typ} {x : Int} : ∀ {i : Nat}, x ∈ mxUp ty l i ↔ ∃ k : Nat, k < i ∧ keptB ty l k = true ∧ x = (k : Int)
 | 0 => by simp [mxUp]
 | i + 1 => by
  simp only [mxUp, List.mem_append, mem_mxUp (i := i)]
  constructor
  ·rintro (⟨k, h1, h2, h3⟩ | hx)
   ·exact ⟨k, by omega, h2, h3⟩
   ·split at hx
    ·rename_i hk
     simp at hx
     exact ⟨i, by omega, hk, hx⟩
    ·simp at hx
  ·rintro ⟨k, h1, h2, h3⟩
   by_cases e : k = i
   ·subst e
    right
    rw [if_pos h2]
    simp [h3]
   ·exact .inl ⟨k, by omega, h2, h3⟩
theorem mxUp_nodup {ty : List Typ} : ∀ i, (mxUp ty l i).Nodup
 | 0 => List.nodup_nil
 | i + 1 => by
  simp only [mxUp]
  rw [List.nodup_append]
  refine ⟨mxUp_nodup i, by split <;> simp, fun x hx y hy e => ?_⟩
  obtain ⟨k, h1, _, h3⟩ := mem_mxUp.1 hx
  split at hy
  ·simp at hy
   omega
  ·simp at hy
end
noncomputable def covUp (ty : List Typ) (l : List FSv) (m : List Int) (i : Nat) : Nat → Bool
 | 0 => false
 | j + 1 => covUp ty l m i j || match m[j]? with
  | some k => morB ty (nodesAt l k.toNat) (nodesAt l i)
  | none => false
theorem covUp_of {ty : List Typ} {l : List FSv} {m : List Int} {i : Nat} : ∀ {n j : Nat} {k : Int}, j < n → m[j]? = some k → morB ty (nodesAt l k.toNat) (nodesAt l i) = true → covUp ty l m i n = true
 | 0, j, k, hj, _, _ => by omega
 | n + 1, j, k, hj, hk, hm => by
  unfold covUp
  by_cases e : j = n
  ·subst e
   rw [hk]
   simp [hm]
  ·rw [covUp_of (by omega : j < n) hk hm]
   rfl
noncomputable def tw24 : Tbl := [(15, gHier), (16, gFits), (17, gEx), (26, gMx), (21, gSubs9)]
theorem ctw24 : Ctx Try.prog G (orc tw24) := (TblOK.cons gHier_ok (.cons gFits_ok (.cons gEx_ok (.cons (gMx_ok smax_call) (.cons ssubs_ok .nil))))).ctx mixed
def SC1 (u v tl tm : T) (n i : Nat) : AState := ⟨[(32, .t (iv (i : Int))), (31, .t (iv (n : Int))), (30, .t tl), (6, .t tm), (5, .ptr 0 0), (1, .t tl)], R16 u v, 1, 98⟩
noncomputable def SC1i (u v tl tm : T) (ty : List Typ) (l : List FSv) (m : List Int) (i j : Nat) : AState := ⟨[(37, .t (iv (j : Int))), (36, .t (iv (m.length : Int))), (35, .t tm), (8, .t (bv (covUp ty l m i j))), (7, .t (iv (i : Int))), (32, .t (iv (i : Int))), (31, .t (iv (l.length : Int))), (30, .t tl), (6, .t tm), (5, .ptr 0 0), (1, .t tl)], R16 u v, 1, 98⟩
def SC2 (u v tl tm : T) (n i : Nat) : AState := ⟨[(68, .t (iv (i : Int))), (67, .t (iv (n : Int))), (66, .t tm), (6, .t tm), (5, .ptr 0 0), (1, .t tl)], R16 u v, 1, 98⟩
def SC2i (u v tl tm : T) (n i : Nat) (k : Int) (j : Nat) : AState := ⟨[(75, .t (iv (j : Int))), (74, .t (iv (n : Int))), (73, .t tm), (12, .t (iv k)), (11, .t (iv (i : Int))), (68, .t (iv (i : Int))), (67, .t (iv (n : Int))), (66, .t tm), (6, .t tm), (5, .ptr 0 0), (1, .t tl)], R16 u v, 1, 98⟩
set_option maxHeartbeats 4000000 in
theorem covers_law {t tl : T} {d : List TD} {l : List FSv} (ht : IsS eTD t d) (hd : d.length ≤ 12 → DOK d) (htl : IsS eFS tl l) : CallT Try.prog G 6 [t, tl] (· = .v (.bool true)) := by
 have gh := gHier_eq ht hd
 obtain ⟨h, hh⟩ : ∃ h, h = hOf d := ⟨_, rfl⟩
 obtain ⟨u, hu'⟩ : ∃ u, u = treeS eTyp h.1 := ⟨_, rfl⟩
 obtain ⟨v, hv'⟩ : ∃ v, v = treeS eFt h.2 := ⟨_, rfl⟩
 have hu : IsS eTyp u h.1 := hu' ▸ IsS.tree _ _
 have hv : IsS eFt v h.2 := hv' ▸ IsS.tree _ _
 have hTd : hT d = .ag [u, v] := by unfold hT; rw [← hh, hu', hv']
 rw [hTd] at gh
 have c1 : cellsP (.t (.ag [u, v])) = some [.t u, .t v] := rfl
 have a1 : agOf [.t u, .t v] = .t (.ag [u, v]) := rfl
 refine k_w09_SubsumeCovers.call rfl ?_
 unfold M_w09_SubsumeCovers
 refine mc_seq_runs ctw24 ?_
 simp -implicitDefEqProofs
 refine mc_seq_runs ctw24 ?_
 simp -implicitDefEqProofs [tw24, gh, storeM, c1, splice]
 by_cases h6 : 6 < l.length
 ·have h6' : (6 : Int) < (l.length : Int) := by omega
  refine mc_seq_runs ctw24 ?_
  simp -implicitDefEqProofs [htl.len, h6, h6', tw24, gEx_eq]
 ·have h6' : ¬ (6 : Int) < (l.length : Int) := by omega
  have gf := gFits_eq hu hv htl (by omega)
  cases hf : fitsB h.1.length h.2.length l with
  | false =>
   rw [hf] at gf
   refine mc_seq_runs ctw24 ?_
   simp -implicitDefEqProofs [htl.len, h6, h6', loadM, a1, tw24, gf, gEx_eq]
  | true =>
   rw [hf] at gf
   have hall : AllOK h l := ⟨by rw [hh]; exact hOf_ok hd, fits_true hf⟩
   have hty : TyInj h.1 := by rw [hh]; exact hOf_inj hd
   have gm := gMx_eq hu hv htl (by omega) hall
   have hml := mxUp_len h.1 l l.length
   have hmem : ∀ (j : Nat) x, (mxUp h.1 l l.length)[j]? = some x → ∃ k : Nat, k < l.length ∧ keptB h.1 l k = true ∧ x = (k : Int) := fun j x hx => mem_mxUp.1 (List.mem_of_getElem? hx)
   have hnd := mxUp_nodup (ty := h.1) (l := l) l.length
   have hcov : ∀ i, i < l.length → covUp h.1 l (mxUp h.1 l l.length) i (mxUp h.1 l l.length).length = true := by
    intro i hi
    obtain ⟨k, hk1, hk2, hk3⟩ := kept_cover hall _ i hi (Nat.lt_succ_self _)
    obtain ⟨j, hj, e⟩ := List.getElem_of_mem (mem_mxUp.2 ⟨k, hk1, hk2, rfl⟩ : (k : Int) ∈ mxUp h.1 l l.length)
    exact covUp_of hj (by rw [List.getElem?_eq_getElem hj, e]) (by rw [Int.toNat_natCast]; exact hk3)
   obtain ⟨m, hm⟩ : ∃ m, m = mxUp h.1 l l.length := ⟨_, rfl⟩
   rw [← hm] at gm hml hmem hnd hcov
   obtain ⟨tm, htm'⟩ : ∃ tm, tm = treeS eInt m := ⟨_, rfl⟩
   have htm : IsS eInt tm m := htm' ▸ IsS.tree _ _
   rw [← htm'] at gm
   have lp : ∀ c cs, loadM false 1 (R16 u v) (.t (.pt (c :: cs))) = some (.t c) := fun _ _ => rfl
   have ldh : loadM true 2 (R16 u v) (.ptr 0 0) = some (.t (.ag [u, v])) := by simp [loadM, R16, a1]
   have laF : ∀ (y : FSv) cs, loadM true 1 (R16 u v) (.t (.pt (y.tree :: cs))) = some (.t (.ag [y.tree])) := fun y cs => by simp [loadM]
   refine mc_seq_runs ctw24 ?_
   simp -implicitDefEqProofs [htl.len, h6, h6', loadM, a1, tw24, gf]
   refine mc_seq_runs ctw24 ?_
   simp -implicitDefEqProofs [loadM, a1, tw24, gm]
   refine mc_cut (fun _ : Unit => SC1 u v tl tm l.length l.length) (fun _ => True) (fun _ => rfl) ?_ ?_
   ·refine mc_seq_runs ctw24 ?_
    simp -implicitDefEqProofs [htl.len]
    refine mc_block ?_
    refine mc_for (SC1 u v tl tm l.length) l.length (fun _ => rfl) ?_ rfl ?_ ?_
    ·refine sub_forget rfl rfl ?_ ?_ <;> simp -implicitDefEqProofs [SC1, R16]
    ·intro i hi
     obtain ⟨x, hx⟩ : ∃ x, l[i]? = some x := ⟨_, List.getElem?_eq_getElem hi⟩
     have ix := ia_FS htl hx
     have e1 : IntKind.i64.wrap ((i : Int) + 1) = ((i + 1 : Nat) : Int) := wrap_nat (by omega) (by omega)
     refine mc_seq_runs ctw24 ?_
     simp -implicitDefEqProofs [SC1, hi]
     refine mc_seq_runs ctw24 ?_
     simp -implicitDefEqProofs
     refine mc_cut (fun _ : Unit => SC1 u v tl tm l.length i) (fun _ => True) (fun _ => rfl) ?_ ?_
     ·refine mc_block ?_
      refine mc_seq_runs ctw24 ?_
      simp -implicitDefEqProofs
      refine mc_seq_runs ctw24 ?_
      simp -implicitDefEqProofs
      refine mc_cut (fun _ : Unit => SC1i u v tl tm h.1 l m i m.length) (fun _ => True) (fun _ => rfl) ?_ ?_
      ·refine mc_seq_runs ctw24 ?_
       simp -implicitDefEqProofs [htm.len]
       refine mc_block ?_
       refine mc_for (SC1i u v tl tm h.1 l m i) m.length (fun _ => rfl) ?_ rfl ?_ ?_
       ·exact sub_env (by simp -implicitDefEqProofs [covUp])
       ·intro j hj
        obtain ⟨k0, hk0⟩ : ∃ k0, m[j]? = some k0 := ⟨_, List.getElem?_eq_getElem hj⟩
        obtain ⟨k, hkl, _, rfl⟩ := hmem j k0 hk0
        obtain ⟨y, hy⟩ : ∃ y, l[k]? = some y := ⟨_, List.getElem?_eq_getElem hkl⟩
        have iy := ia_FS htl hy
        have im := ia_int htm hk0
        have e2 : IntKind.i64.wrap ((j : Int) + 1) = ((j + 1 : Nat) : Int) := wrap_nat (by omega) (by omega)
        have g1 := gSubs9_eq hu hv y.ok x.ok (hall.map hy hx)
        have hs : covUp h.1 l m i (j + 1) = (covUp h.1 l m i j || morB h.1 y.nodes x.nodes) := by
         conv => lhs; unfold covUp
         rw [hk0]
         simp only [Int.toNat_natCast]
         rw [nodesAt_eq hy, nodesAt_eq hx]
        have n0 : ¬ ((k : Int) < 0) := by omega
        have n1 : ¬ ((l.length : Int) ≤ (k : Int)) := by omega
        have n2 : ¬ (l.length ≤ k) := by omega
        refine mc_runs ctw24 ?_
        unfold SC1i
        rw [hs]
        generalize covUp h.1 l m i j = cv at *
        cases cv with
        | true =>
         simp -implicitDefEqProofs [hj, im, lp, n0, n1, n2, htl.len, e2]
         exact sub_env (by simp -implicitDefEqProofs)
        | false =>
         simp -implicitDefEqProofs [hj, im, lp, n0, n1, n2, htl.len, iy, ix, laF, ldh, tw24, g1, e2]
         exact sub_env (by simp -implicitDefEqProofs)
       ·refine mc_runs ctw24 ?_
        simp -implicitDefEqProofs [SC1i]
        exact Next.mk () trivial (sub_env (by simp -implicitDefEqProofs))
      ·rintro _ -
       have hc := hcov i hi
       refine mc_runs ctw24 ?_
       simp -implicitDefEqProofs [SC1i, hc]
       exact Next.mk () trivial (sub_env (by simp -implicitDefEqProofs))
     ·rintro _ -
      refine mc_runs ctw24 ?_
      simp -implicitDefEqProofs [SC1, e1]
      exact sub_env (by simp -implicitDefEqProofs)
    ·refine mc_runs ctw24 ?_
     simp -implicitDefEqProofs [SC1]
     exact Next.mk () trivial (sub_env (by simp -implicitDefEqProofs))
   ·rintro _ -
    refine mc_cut (fun _ : Unit => SC2 u v tl tm m.length m.length) (fun _ => True) (fun _ => rfl) ?_ ?_
    ·refine mc_seq_runs ctw24 ?_
     simp -implicitDefEqProofs [SC1, htm.len]
     refine mc_block ?_
     refine mc_for (SC2 u v tl tm m.length) m.length (fun _ => rfl) ?_ rfl ?_ ?_
     ·exact sub_env (by simp -implicitDefEqProofs)
     ·intro i hi
      obtain ⟨k0, hk0⟩ : ∃ k0, m[i]? = some k0 := ⟨_, List.getElem?_eq_getElem hi⟩
      obtain ⟨k, hkl, hkk, rfl⟩ := hmem i k0 hk0
      obtain ⟨y, hy⟩ : ∃ y, l[k]? = some y := ⟨_, List.getElem?_eq_getElem hkl⟩
      have iy := ia_FS htl hy
      have im := ia_int htm hk0
      have e1 : IntKind.i64.wrap ((i : Int) + 1) = ((i + 1 : Nat) : Int) := wrap_nat (by omega) (by omega)
      refine mc_seq_runs ctw24 ?_
      simp -implicitDefEqProofs [SC2, hi]
      refine mc_seq_runs ctw24 ?_
      simp -implicitDefEqProofs
      refine mc_cut (fun _ : Unit => SC2 u v tl tm m.length i) (fun _ => True) (fun _ => rfl) ?_ ?_
      ·refine mc_block ?_
       refine mc_seq_runs ctw24 ?_
       simp -implicitDefEqProofs [im, lp]
       refine mc_seq_runs ctw24 ?_
       simp -implicitDefEqProofs [htm.len]
       refine mc_block ?_
       refine mc_for (SC2i u v tl tm m.length i (k : Int)) m.length (fun _ => rfl) ?_ rfl ?_ ?_
       ·exact sub_env (by simp -implicitDefEqProofs)
       ·intro j hj
        obtain ⟨n0, hn0⟩ : ∃ n0, m[j]? = some n0 := ⟨_, List.getElem?_eq_getElem hj⟩
        obtain ⟨n, hnl, hnk, rfl⟩ := hmem j n0 hn0
        obtain ⟨z, hz⟩ : ∃ z, l[n]? = some z := ⟨_, List.getElem?_eq_getElem hnl⟩
        have iz := ia_FS htl hz
        have jm := ia_int htm hn0
        have e2 : IntKind.i64.wrap ((j : Int) + 1) = ((j + 1 : Nat) : Int) := wrap_nat (by omega) (by omega)
        have g1 := gSubs9_eq hu hv y.ok z.ok (hall.map hy hz)
        refine mc_runs ctw24 ?_
        by_cases hij : i = j
        ·subst hij
         simp -implicitDefEqProofs [SC2i, hj, jm, lp, e2]
         exact sub_env (by simp -implicitDefEqProofs)
        ·have hij' : ((i : Int) != (j : Int)) = true := by
          rw [bne_iff_ne]; omega
         have hkn : k ≠ n := by
          intro e
          have hp := List.pairwise_iff_getElem.1 (List.nodup_iff_pairwise_ne.1 hnd)
          have q1 := (List.getElem?_eq_some_iff.1 hk0).2
          have q2 := (List.getElem?_eq_some_iff.1 hn0).2
          rcases Nat.lt_or_gt_of_ne hij with hlt | hgt
          ·exact hp i j hi hj hlt (by rw [q1, q2, e])
          ·exact hp j i hj hi hgt (by rw [q1, q2, e])
         have hap := kept_apart hty hall hkl hnl hkk hnk hkn
         rw [nodesAt_eq hy, nodesAt_eq hz] at hap
         rw [hap] at g1
         simp -implicitDefEqProofs [SC2i, hj, jm, lp, hij, hij', iy, iz, laF, ldh, tw24, g1, e2]
         exact sub_env (by simp -implicitDefEqProofs)
       ·refine mc_runs ctw24 ?_
        simp -implicitDefEqProofs [SC2i]
        exact Next.mk () trivial (sub_env (by simp -implicitDefEqProofs))
      ·rintro _ -
       refine mc_runs ctw24 ?_
       simp -implicitDefEqProofs [SC2, e1]
       exact sub_env (by simp -implicitDefEqProofs)
     ·refine mc_runs ctw24 ?_
      simp -implicitDefEqProofs [SC2]
      exact Next.mk () trivial (sub_env (by simp -implicitDefEqProofs))
    ·rintro _ -
     refine mc_runs ctw24 ?_
     simp -implicitDefEqProofs [SC2, tw24, gEx_eq]
end Go.Proofs.Ytbiadmfmjnoecaa
namespace Go.Proofs.Ytbiadmfmjnoecaa
set_option linter.unusedSimpArgs false
set_option linter.unusedVariables false
open Go Go.Abs Go.ChangeShapes Go.WideShapes Go.ChangeAt Go.RowKit
theorem read_fss {H : Type} {enc : TypeId × Value → H} {W : World} {spare : Nat → Bool} {held : Bool} {v : Value} {d : DataW H} {p : List MemPlace} (h : DataW.Trod enc Try.prog W 0 spare held 42 v d p) {a : Option Addr} {len cap' : Nat} (hv : v = .slice a len cap') :
  ∃ x l, IsS eFS x l ∧ RepT (Old W) W x v := by
 obtain ⟨fuel, hf⟩ := h
 subst hv
 obtain ⟨ts, hr, x, l, e, hx, _, _⟩ := rd_slice (P := Try.prog) Try.underlying42 (by kernel_rfl) rd_fs fuel _ d p hf
 refine ⟨x, l, hx, ?_⟩
 have := hr.1
 rw [e] at this
 simp only [Value.cells, RepL] at this
 obtain ⟨z, zs, hz, h3, _⟩ := this
 simp at hz
 rw [hz.1]
 exact h3
end Go.Proofs.Ytbiadmfmjnoecaa
namespace Go.Proofs.Ytbiadmfmjnoecaa.subsumeCovers
set_option linter.unusedSimpArgs false
set_option linter.unusedVariables false
open Go Go.Abs Go.ChangeShapes Go.WideShapes Go.ChangeAt Go.RowKit
theorem own : ownKnob Try.prog.godebug = none := by kernel_rfl
theorem laidOut : laidOutB Try.prog = true := by kernel_rfl
set_option maxRecDepth 100000 in
theorem contract (H : Type) (enc : TypeId × Value → H) (W : World) (base : Nat) (args : Array Value) (ds gs : List (DataW H)) (before : List MemPlace)
  (hval : ∀ (j : Nat) t v, Try.f6.params[j]? = some t → args[j]? = some v → Value.okWide Try.prog W .any base t v)
  (hW : DataW.Whole enc Try.prog Try.f6.params.toList Rows.subsumeCoversSpec.vars false W args.toList ds gs before) (hk : Rows.uptoSmall H (ds ++ gs) = true) :
  Calls Try.prog 6 args W fun e W' => ∃ v, e = .returned v ∧ Rows.subsumeCoversSpec.post enc Try.prog Try.f6 false true false false W args v W' := by
 have hW' := hW
 obtain ⟨p, q, hA0, hV, rfl, hfz, hnd⟩ := hW
 have hA : DataW.TrodAll enc Try.prog W 0 (fun _ => true) true Try.f6.params.toList args.toList ds p := hA0
 rw [Try.params6] at hA hval
 obtain ⟨v0, vs0, d0, ds0, p0, q0, hargs, rfl, rfl, h0, r0⟩ := trodAll_cons hA
 obtain ⟨v1, vs1, d1, ds1, p1, q1, rfl, rfl, rfl, h1, r1⟩ := trodAll_cons r0
 obtain ⟨rfl, rfl, rfl⟩ := trodAll_nil r1
 obtain rfl : args = #[v0, v1] := by cases args; simp_all
 obtain ⟨rfl, rfl⟩ := trodVars_none hV
 obtain ⟨a0, len0, cap0, e0⟩ := okWide_slice Try.underlying22 (hval 0 22 v0 (by simp) (by simp))
 obtain ⟨a1, len1, cap1, e1⟩ := okWide_slice Try.underlying42 (hval 1 42 v1 (by simp) (by simp))
 have lt0 : ∀ x ∈ p0, x.block < W.heap.size := by obtain ⟨m, hm⟩ := h0; exact DataW.trod_lt m _ _ _ hm
 have lt1 : ∀ x ∈ p1, x.block < W.heap.size := by obtain ⟨m, hm⟩ := h1; exact DataW.trod_lt m _ _ _ hm
 have hb : Rows.uptoBulk d0 ≤ 1048576 := by
  have : Rows.uptoBulkAll ([d0, d1] ++ []) ≤ 1048576 := of_decide_eq_true hk
  simp only [List.cons_append, List.nil_append, Rows.uptoBulkAll] at this
  omega
 obtain ⟨x0, l0, i0, k0, t0⟩ := read_decls h0 e0 hb
 obtain ⟨x1, l1, i1, t1⟩ := read_fss h1 e1
 clear hA0
 refine ((covers_law i0 k0 i1).true (fun g cs hg => by cases hg) (us := #[v0, v1]) (by simp only [RepL]; exact ⟨_, _, rfl, t0, _, _, rfl, t1, rfl⟩)).mono fun e W' ⟨he, bel⟩ => ?_
 subst he
 exact ⟨_, rfl, _, _, _, [], _, [], hW', trodAll_mk1 (shut_bool Try.underlying4 _), (trodAll_cons_mk (Below.trod laidOut (by kernel_rfl) (of_decide_eq_true (by kernel_rfl)) h0 bel lt0) (trodAll_cons_mk (Below.trod laidOut (by kernel_rfl) (of_decide_eq_true (by kernel_rfl)) h1 bel lt1) trodAll_mk0)), rfl, bel.frame _, fun h => by cases h⟩
set_option maxRecDepth 100000 in
theorem lifted (os : Os) (started : os.Started) (H : Type) (enc : TypeId × Value → H) (F : Stop.Interp) :
  ReturnsInHanded {} Try.checked os 6 .any ((Rows.OpenSpec.upto Rows.subsumeCoversSpec).pre6 enc Try.prog Try.f6 Rows.subsumeCoversUptoRow.domain false) (((Rows.OpenSpec.upto Rows.subsumeCoversSpec).at F).post enc Try.prog Try.f6 false true false false) := by
 refine returnsInHanded_of_cond (C := Try.checked) (s := Rows.OpenSpec.upto Rows.subsumeCoversSpec) (k := Rows.uptoSmall) rfl own started (by kernel_rfl) Try.func6
  (OpenSpec.witness (enc := enc) (C := Try.checked) (s := Rows.OpenSpec.upto Rows.subsumeCoversSpec) (k := Rows.uptoSmall) rfl false ⟨#[], #[.slice none 0 0, .slice none 0 0], []⟩ 8 (by kernel_rfl) (by kernel_rfl) (by kernel_rfl)
   (x := ([.nil, .nil], [], [])) (by kernel_rfl) rfl (by kernel_rfl)) ?_
 intro W base args ds gs before hval hW _ hk _
 exact contract H enc W base args ds gs before hval hW hk
theorem over : Rows.subsumeCoversUptoRow.holds Try.pinned (Rows.OpenSpec.upto Rows.subsumeCoversSpec) :=
 OpenClaim.holds_of_cond 6 Try.f6 rfl rfl rfl rfl rfl rfl rfl ⟨rfl, rfl, rfl, rfl, rfl⟩ rfl rfl rfl rfl rfl (by kernel_rfl) Try.func6 (by kernel_rfl)
  (of_decide_eq_true (by kernel_rfl)) (by unfold Func.isWrapper; first | (rw [if_pos (by decide +kernel)]; kernel_rfl) | (rw [if_neg (by decide +kernel)]; exact ⟨rfl, rfl⟩))
  (fun os started H enc _ F => lifted os started H enc F)
theorem proved : Rows.SubsumeCoversUptoSaid :=
 over
end Go.Proofs.Ytbiadmfmjnoecaa.subsumeCovers
