/-
  graph.Equal of the program: two graphs are equal if their types and arcs are.
  Compare and Maximal of the program and of the document; the law SubsumeMaximal returns true.
  A slice of feature structures that came in. No statement of the program stands here.
  PROVED: SubsumeMaximalUptoSaid: for all declarations and feature structures of bulk at most 1048576 the law SubsumeMaximal returns true, and what came in reads behind the call as before. Its conditions are the statement's own.
-/
import Derived.Test.YtbiadmfmjnoecaaQ17
import Derived.Test.YtbiadmfmjnoecaaQ18
namespace Go.Proofs.Ytbiadmfmjnoecaa
set_option linter.unusedSimpArgs false
set_option linter.unusedVariables false
open Go Go.Abs

def cmpI (a b : Int) : Int := if a < b then -1 else if b < a then 1 else 0
theorem cmpI_zero {a b : Int} : cmpI a b = 0 ↔ a = b := by
  unfold cmpI
  constructor
  · intro h
    split at h
    · cases h
    · split at h
      · cases h
      · omega
  · intro h
    rw [if_neg (by omega), if_neg (by omega)]
theorem isNaN_call (a : Int) : CallT Try.prog G 112 [iv a] (· = bv false) := by
  refine k_cmp_isNaN.runs ctx0 rfl ?_
  simp -implicitDefEqProofs [M_cmp_isNaN]
noncomputable def gNaN : List T → Option T := g1 tInt fun _ => some (bv false)
theorem gNaN_ok : GOK Try.prog G 112 gNaN := g1_ok fun a x r ha hr => by
  obtain rfl : a = iv x := ha
  injection hr with hr; subst hr; exact isNaN_call x
theorem gNaN_eq (a : Int) : gNaN [iv a] = some (bv false) := g1_eq (τ := tInt) rfl
noncomputable def tw17 : Tbl := [(112, gNaN)]
theorem ctw17 : Ctx Try.prog G (orc tw17) := (TblOK.cons gNaN_ok .nil).ctx mixed
theorem cmpCompare_call (a b : Int) : CallT Try.prog G 82 [iv a, iv b] (· = iv (cmpI a b)) := by
  refine k_cmp_Compare.runs ctw17 rfl ?_
  by_cases h1 : a < b
  · have hr : cmpI a b = -1 := by unfold cmpI; rw [if_pos h1]
    simp -implicitDefEqProofs [M_cmp_Compare, tw17, gNaN_eq, h1, hr]
  · by_cases h2 : b < a
    · have hr : cmpI a b = 1 := by unfold cmpI; rw [if_neg h1, if_pos h2]
      simp -implicitDefEqProofs [M_cmp_Compare, tw17, gNaN_eq, h1, h2, hr]
    · have hr : cmpI a b = 0 := by unfold cmpI; rw [if_neg h1, if_neg h2]
      simp -implicitDefEqProofs [M_cmp_Compare, tw17, gNaN_eq, h1, h2, hr]
noncomputable def gCmp : List T → Option T := g2 tInt tInt fun a b => some (iv (cmpI a b))
theorem gCmp_ok : GOK Try.prog G 82 gCmp := g2_ok fun a b x y r ha hb hr => by
  obtain rfl : a = iv x := ha
  obtain rfl : b = iv y := hb
  injection hr with hr; subst hr; exact cmpCompare_call x y
theorem gCmp_eq (a b : Int) : gCmp [iv a, iv b] = some (iv (cmpI a b)) := g2_eq (τ := tInt) (σ := tInt) rfl rfl

/-! cmp.Or. -/
def S113 (t : T) (n j : Nat) : AState := ⟨[(8, .t (iv (j : Int))), (7, .t (iv (n : Int))), (6, .t t), (3, .t (iv 0))], [], 0, 18⟩
theorem cmpOr_call {t : T} {l : List Int} (ht : IsS eInt t l) (hl : l.length ≤ 1000000) : CallT Try.prog G 113 [t] (· = iv (fst (nAt l) l.length)) := by
  refine k_cmp_Or.call rfl ?_
  unfold M_cmp_Or
  refine mc_seq_runs ctx0 ?_
  simp -implicitDefEqProofs
  refine mc_seq_runs ctx0 ?_
  simp -implicitDefEqProofs
  obtain ⟨n, hle, h0, hn⟩ := fst_cases (nAt l) l.length
  refine mc_cut (fun _ : Unit => S113 t l.length l.length) (fun _ => fst (nAt l) l.length = 0) (fun _ => rfl) ?_ ?_
  · refine mc_seq_runs ctx0 ?_
    simp -implicitDefEqProofs [ht.len]
    refine mc_block ?_
    refine mc_for (S113 t l.length) n (fun _ => rfl) ?_ rfl ?_ ?_
    · refine sub_forget rfl rfl ?_ ?_ <;> simp -implicitDefEqProofs [S113]
    · intro j hj
      have hjl : j < l.length := by omega
      have ia := ia_int ht (nAt_get hjl)
      rw [h0 j hj] at ia
      have e1 : IntKind.i64.wrap ((j : Int) + 1) = ((j + 1 : Nat) : Int) := wrap_nat (by omega) (by omega)
      refine mc_runs ctx0 ?_
      simp -implicitDefEqProofs [S113, hjl, ia, loadM, e1]
      refine sub_forget rfl rfl ?_ ?_ <;> simp -implicitDefEqProofs
    · refine mc_runs ctx0 ?_
      rcases hn with ⟨e, hz⟩ | ⟨hjl, hk, he⟩
      · have hnl : ¬ n < l.length := by omega
        simp -implicitDefEqProofs [S113, hnl]
        exact Next.mk () hz (sub_forget rfl rfl (by simp -implicitDefEqProofs [e]) (by simp -implicitDefEqProofs))
      · have ia := ia_int ht (nAt_get hjl)
        have hk' := neq_zero hk
        simp -implicitDefEqProofs [S113, hjl, ia, loadM, hk, hk', he]
  · rintro _ e
    refine mc_runs ctx0 ?_
    simp -implicitDefEqProofs [S113, e]
noncomputable def gOr : List T → Option T := g1 (tSl eInt) fun l => if l.length ≤ 1000000 then some (iv (fst (nAt l) l.length)) else none
theorem gOr_ok : GOK Try.prog G 113 gOr := g1_ok fun a l r ha hr => by
  split at hr
  · rename_i h; injection hr with hr; subst hr; exact cmpOr_call ha h
  · cases hr
def orI (a b : Int) : Int := if a = 0 then b else a
theorem orI_zero {a b : Int} : orI a b = 0 ↔ a = 0 ∧ b = 0 := by
  unfold orI
  split
  · rename_i h; simp [h]
  · rename_i h; simp [h]
theorem gOr_eq (a b : Int) : gOr [treeS eInt [a, b]] = some (iv (orI a b)) := by
  refine (g1_eq (τ := tSl eInt) (IsS.tree eInt [a, b])).trans ?_
  rw [if_pos (by simp)]
  have : fst (nAt [a, b]) [a, b].length = orI a b := by
    simp only [List.length_cons, List.length_nil, fst, nAt, orI]
    by_cases h : a = 0
    · simp [h]
    · simp [h]
  rw [this]

/-! Arcs. -/
def arcC (a b : Arc) : Int := orI (cmpI a.feat b.feat) (cmpI a.to b.to)
theorem arcC_zero {a b : Arc} : arcC a b = 0 ↔ a = b := by
  unfold arcC
  rw [orI_zero, cmpI_zero, cmpI_zero]
  constructor
  · rintro ⟨h1, h2⟩; cases a; cases b; simp only at h1 h2; rw [h1, h2]
  · intro h; rw [h]; exact ⟨rfl, rfl⟩
noncomputable def tw17b : Tbl := [(82, gCmp), (113, gOr)]
theorem ctw17b : Ctx Try.prog G (orc tw17b) := (TblOK.cons gCmp_ok (.cons gOr_ok .nil)).ctx mixed
theorem arcC_call (a b : Arc) : CallT Try.prog G 115 [.ag [iv a.feat, iv a.to], .ag [iv b.feat, iv b.to]] (· = iv (arcC a b)) := by
  have c1 : cellsP (.t (.ag [iv a.feat, iv a.to])) = some [.t (iv a.feat), .t (iv a.to)] := rfl
  have c2 : cellsP (.t (.ag [iv b.feat, iv b.to])) = some [.t (iv b.feat), .t (iv b.to)] := rfl
  have ts : tsliceM 3 1 [.int .i64 0] 2 [(0, .t (iv (cmpI a.feat b.feat))), (1, .t (iv (cmpI a.to b.to)))] = some (.t (treeS eInt [cmpI a.feat b.feat, cmpI a.to b.to])) := rfl
  have go := gOr_eq (cmpI a.feat b.feat) (cmpI a.to b.to)
  refine k_graph_compareNodes_1.runs ctw17b rfl ?_
  simp -implicitDefEqProofs [M_graph_compareNodes_1, c1, c2, loadM, tw17b, gCmp_eq, ts, go, arcC]
noncomputable def gArcC : List T → Option T := g2 (tAg eArc) (tAg eArc) fun a b => some (iv (arcC a b))
theorem gArcC_ok : GOK Try.prog G 115 gArcC := g2_ok fun a b x y r ha hb hr => by
  obtain rfl : a = .ag (eArc.enc x) := ha
  obtain rfl : b = .ag (eArc.enc y) := hb
  injection hr with hr; subst hr; exact arcC_call x y
theorem hOfT_eq2 {g : List T → Option T} {x y r : T} (h : g [x, y] = some r) (hp : plainT r = true) (H : Heap) (nx : Nat) : hOfT g [.t x, .t y] H nx = some (.t r, H, nx) := by
  simp [hOfT, h, hp]
theorem hOfT_eq3 {g : List T → Option T} {x y z r : T} (h : g [x, y, z] = some r) (hp : plainT r = true) (H : Heap) (nx : Nat) : hOfT g [.t x, .t y, .t z] H nx = some (.t r, H, nx) := by
  simp [hOfT, h, hp]

/-! slices.CompareFunc. -/
section
variable {α : Type}
def cfE (c : α → α → Int) (l m : List α) (i : Nat) : Int := match l[i]?, m[i]? with
  | some x, some y => c x y
  | some _, none => 1
  | _, _ => 0
def cfV (c : α → α → Int) (l m : List α) : Int := if fst (cfE c l m) l.length ≠ 0 then fst (cfE c l m) l.length else if l.length < m.length then -1 else 0
theorem cfV_zero {c : α → α → Int} {l m : List α} : cfV c l m = 0 ↔ l.length = m.length ∧ ∀ (i : Nat) x y, l[i]? = some x → m[i]? = some y → c x y = 0 := by
  unfold cfV
  constructor
  · intro h
    by_cases h0 : fst (cfE c l m) l.length = 0
    · rw [if_neg (by rw [h0]; simp)] at h
      split at h
      · cases h
      · have hle : m.length ≤ l.length := by omega
        have hz := fst_zero h0
        have he : l.length = m.length := by
          apply Classical.byContradiction
          intro hne
          have hlt : m.length < l.length := by omega
          have := hz m.length hlt
          simp [cfE, List.getElem?_eq_getElem hlt] at this
        refine ⟨he, fun i x y hx hy => ?_⟩
        have := hz i (List.getElem?_eq_some_iff.1 hx).1
        simpa [cfE, hx, hy] using this
    · rw [if_pos h0] at h
      exact absurd h h0
  · rintro ⟨h1, h2⟩
    have h0 : fst (cfE c l m) l.length = 0 := fst_all fun i hi => by
      have hm : i < m.length := by omega
      simp only [cfE, List.getElem?_eq_getElem hi, List.getElem?_eq_getElem hm]
      exact h2 i _ _ (List.getElem?_eq_getElem hi) (List.getElem?_eq_getElem hm)
    rw [if_neg (by rw [h0]; simp), if_neg (by omega)]
end

abbrev fnV (f : Nat) : T := .v (.func (.func f) #[] #[])

def S114 (t u : T) (n j : Nat) : AState := ⟨[(13, .t (iv (j : Int))), (12, .t (iv (n : Int))), (11, .t t), (2, .t (fnV 115)), (1, .t u), (0, .t t)], [], 0, 39⟩
noncomputable def ht114 : HTbl := [(115, hOfT gArcC)]
theorem cth114 : Ctx Try.prog G (orh [] ht114) := TblOK.nil.ctxH (HTblOK.cons gArcC_ok.hok .nil) mixed
theorem cf114_call {t u : T} {l m : List Arc} (ht : IsS eArc t l) (hu : IsS eArc u m) (hl : l.length ≤ 1000000) (hm : m.length ≤ 1000000) : CallT Try.prog G 114 [t, u, fnV 115] (· = iv (cfV arcC l m)) := by
  refine k_slices_CompareFunc_2.call rfl ?_
  unfold M_slices_CompareFunc_2
  refine mc_seq_runs cth114 ?_
  simp -implicitDefEqProofs
  obtain ⟨n, hle, h0, hn⟩ := fst_cases (cfE arcC l m) l.length
  refine mc_cut (fun _ : Unit => S114 t u l.length l.length) (fun _ => fst (cfE arcC l m) l.length = 0) (fun _ => rfl) ?_ ?_
  · refine mc_seq_runs cth114 ?_
    simp -implicitDefEqProofs [ht.len]
    refine mc_block ?_
    refine mc_for (S114 t u l.length) n (fun _ => rfl) ?_ rfl ?_ ?_
    · refine sub_forget rfl rfl ?_ ?_ <;> simp -implicitDefEqProofs [S114]
    · intro j hj
      have hjl : j < l.length := by omega
      have hz := h0 j hj
      have hjm : j < m.length := by
        apply Classical.byContradiction
        intro h
        simp [cfE, List.getElem?_eq_getElem hjl, List.getElem?_eq_none (Nat.le_of_not_lt h)] at hz
      have hjm' : ¬ (m.length : Int) ≤ (j : Int) := by omega
      have hjm2 : ¬ m.length ≤ j := by omega
      obtain ⟨x, hx⟩ : ∃ x, l[j]? = some x := ⟨_, List.getElem?_eq_getElem hjl⟩
      obtain ⟨y, hy⟩ : ∃ y, m[j]? = some y := ⟨_, List.getElem?_eq_getElem hjm⟩
      simp only [cfE, hx, hy] at hz
      have ix := ia_Arc ht hx
      have iy := ia_Arc hu hy
      have e1 : IntKind.i64.wrap ((j : Int) + 1) = ((j + 1 : Nat) : Int) := wrap_nat (by omega) (by omega)
      have cx : cellsP (.t (.ag [iv x.feat, iv x.to])) = some [.t (iv x.feat), .t (iv x.to)] := rfl
      have cy : cellsP (.t (.ag [iv y.feat, iv y.to])) = some [.t (iv y.feat), .t (iv y.to)] := rfl
      have ax : agOf [.t (iv x.feat), .t (iv x.to)] = .t (.ag [iv x.feat, iv x.to]) := rfl
      have ay : agOf [.t (iv y.feat), .t (iv y.to)] = .t (.ag [iv y.feat, iv y.to]) := rfl
      have gc : gArcC [.ag [iv x.feat, iv x.to], .ag [iv y.feat, iv y.to]] = some (iv (arcC x y)) := g2_eq (τ := tAg eArc) (σ := tAg eArc) (x := x) (y := y) rfl rfl
      rw [hz] at gc
      have hc := fun H nx => hOfT_eq2 gc rfl H nx
      refine mc_runs cth114 ?_
      simp -implicitDefEqProofs [S114, fnV, hjl, hjm', hjm2, ix, iy, hu.len, loadM, storeM, cx, cy, ax, ay, splice, ht114, hc, e1]
      exact sub_R (by omega) (fun q hq => by cases hq) (by simp -implicitDefEqProofs [under])
    · refine mc_runs cth114 ?_
      rcases hn with ⟨e, hz⟩ | ⟨hjl, hk, he⟩
      · have hnl : ¬ n < l.length := by omega
        simp -implicitDefEqProofs [S114, hnl]
        exact Next.mk () hz (sub_forget rfl rfl (by simp -implicitDefEqProofs [e]) (by simp -implicitDefEqProofs))
      · have hres : cfV arcC l m = cfE arcC l m n := by unfold cfV; rw [if_pos (by rw [he]; exact hk), he]
        obtain ⟨x, hx⟩ : ∃ x, l[n]? = some x := ⟨_, List.getElem?_eq_getElem hjl⟩
        have ix := ia_Arc ht hx
        have cx : cellsP (.t (.ag [iv x.feat, iv x.to])) = some [.t (iv x.feat), .t (iv x.to)] := rfl
        have ax : agOf [.t (iv x.feat), .t (iv x.to)] = .t (.ag [iv x.feat, iv x.to]) := rfl
        by_cases hjm : n < m.length
        · have hjm' : ¬ (m.length : Int) ≤ (n : Int) := by omega
          have hjm2 : ¬ m.length ≤ n := by omega
          obtain ⟨y, hy⟩ : ∃ y, m[n]? = some y := ⟨_, List.getElem?_eq_getElem hjm⟩
          simp only [cfE, hx, hy] at hk hres
          have iy := ia_Arc hu hy
          have cy : cellsP (.t (.ag [iv y.feat, iv y.to])) = some [.t (iv y.feat), .t (iv y.to)] := rfl
          have ay : agOf [.t (iv y.feat), .t (iv y.to)] = .t (.ag [iv y.feat, iv y.to]) := rfl
          have gc : gArcC [.ag [iv x.feat, iv x.to], .ag [iv y.feat, iv y.to]] = some (iv (arcC x y)) := g2_eq (τ := tAg eArc) (σ := tAg eArc) (x := x) (y := y) rfl rfl
          have hc := fun H nx => hOfT_eq2 gc rfl H nx
          have hk' := neq_zero hk
          simp -implicitDefEqProofs [S114, fnV, hjl, hjm', hjm2, ix, iy, hu.len, loadM, storeM, cx, cy, ax, ay, splice, ht114, hc, hk, hk', hres]
        · have hjm' : (m.length : Int) ≤ (n : Int) := by omega
          have hjm2 : m.length ≤ n := by omega
          simp only [cfE, hx, List.getElem?_eq_none hjm2] at hres
          simp -implicitDefEqProofs [S114, fnV, hjl, hjm', hjm2, ix, hu.len, loadM, storeM, cx, ax, splice, hres]
  · rintro _ e
    have hres : cfV arcC l m = if l.length < m.length then -1 else 0 := by unfold cfV; rw [if_neg (by rw [e]; simp)]
    refine mc_runs cth114 ?_
    by_cases hlt : l.length < m.length
    · rw [if_pos hlt] at hres
      simp -implicitDefEqProofs [S114, ht.len, hu.len, hlt, hres]
    · rw [if_neg hlt] at hres
      simp -implicitDefEqProofs [S114, ht.len, hu.len, hlt, hres]

theorem arcs_zero {l m : List Arc} : cfV arcC l m = 0 ↔ l = m := by
  rw [cfV_zero]
  constructor
  · rintro ⟨h1, h2⟩
    refine List.ext_getElem h1 fun i hi hi' => ?_
    exact arcC_zero.1 (h2 i _ _ (List.getElem?_eq_getElem hi) (List.getElem?_eq_getElem hi'))
  · rintro rfl
    refine ⟨rfl, fun i x y hx hy => ?_⟩
    rw [hx] at hy
    injection hy with hy
    exact arcC_zero.2 hy
def tFn (f : Nat) : Ty Unit := ⟨fun t _ => t = fnV f, fun _ _ _ _ _ => rfl⟩
noncomputable def gCf2 : List T → Option T := g3 (tSl eArc) (tSl eArc) (tFn 115) fun l m _ => if l.length ≤ 1000000 ∧ m.length ≤ 1000000 then some (iv (cfV arcC l m)) else none
theorem gCf2_ok : GOK Try.prog G 114 gCf2 := g3_ok fun a b c l m _ r ha hb hc hr => by
  obtain rfl : c = fnV 115 := hc
  split at hr
  · rename_i h; injection hr with hr; subst hr; exact cf114_call ha hb h.1 h.2
  · cases hr
theorem gCf2_eq {t u : T} {l m : List Arc} (ht : IsS eArc t l) (hu : IsS eArc u m) (hl : l.length ≤ 1000000) (hm : m.length ≤ 1000000) : gCf2 [t, u, fnV 115] = some (iv (cfV arcC l m)) :=
  (g3_eq (τ := tSl eArc) (σ := tSl eArc) (ρ := tFn 115) (z := ()) ht hu rfl).trans (if_pos ⟨hl, hm⟩)

/-! Nodes. -/
def ndC (x y : Nd) : Int := if orI (cmpI x.type y.type) (cmpI (x.arcs.length : Int) (y.arcs.length : Int)) ≠ 0 then orI (cmpI x.type y.type) (cmpI (x.arcs.length : Int) (y.arcs.length : Int)) else cfV arcC x.arcs y.arcs
theorem ndC_zero {x y : Nd} : ndC x y = 0 ↔ x.key = y.key := by
  unfold ndC Nd.key
  constructor
  · intro h
    split at h
    · rename_i h0; exact absurd h h0
    · rename_i h0
      have h0 : orI (cmpI x.type y.type) (cmpI (x.arcs.length : Int) (y.arcs.length : Int)) = 0 := Classical.byContradiction h0
      rw [orI_zero, cmpI_zero] at h0
      rw [h0.1, arcs_zero.1 h]
  · intro h
    injection h with h1 h2
    have h0 : orI (cmpI x.type y.type) (cmpI (x.arcs.length : Int) (y.arcs.length : Int)) = 0 := by
      rw [orI_zero, cmpI_zero, cmpI_zero, h1, h2]
      exact ⟨rfl, rfl⟩
    rw [if_neg (by rw [h0]; simp)]
    exact arcs_zero.2 h2
noncomputable def tw17c : Tbl := [(82, gCmp), (113, gOr)]
noncomputable def hw17c : HTbl := [(114, hOfT gCf2)]
theorem ctw17c : Ctx Try.prog G (orh tw17c hw17c) := (TblOK.cons gCmp_ok (.cons gOr_ok .nil)).ctxH (HTblOK.cons gCf2_ok.hok .nil) mixed
set_option maxHeartbeats 2000000 in
theorem ndC_call (x y : Nd) (hx : x.arcs.length ≤ 1000000) (hy : y.arcs.length ≤ 1000000) : CallT Try.prog G 84 [.ag [iv x.type, x.tree], .ag [iv y.type, y.tree]] (· = iv (ndC x y)) := by
  have c1 : cellsP (.t (.ag [iv x.type, x.tree])) = some [.t (iv x.type), .t x.tree] := rfl
  have c2 : cellsP (.t (.ag [iv y.type, y.tree])) = some [.t (iv y.type), .t y.tree] := rfl
  have ts : tsliceM 3 1 [.int .i64 0] 2 [(0, .t (iv (cmpI x.type y.type))), (1, .t (iv (cmpI (x.arcs.length : Int) (y.arcs.length : Int))))] = some (.t (treeS eInt [cmpI x.type y.type, cmpI (x.arcs.length : Int) (y.arcs.length : Int)])) := rfl
  have go := gOr_eq (cmpI x.type y.type) (cmpI (x.arcs.length : Int) (y.arcs.length : Int))
  have gf := gCf2_eq x.ok y.ok hx hy
  have hc := fun H nx => hOfT_eq3 gf rfl H nx
  unfold fnV at hc
  refine k_graph_compareNodes.runs ctw17c rfl ?_
  by_cases h0 : orI (cmpI x.type y.type) (cmpI (x.arcs.length : Int) (y.arcs.length : Int)) = 0
  · have hr : ndC x y = cfV arcC x.arcs y.arcs := by unfold ndC; rw [if_neg (by rw [h0]; simp)]
    rw [h0] at go
    simp -implicitDefEqProofs [M_graph_compareNodes, c1, c2, loadM, x.ok.len, y.ok.len, tw17c, gCmp_eq, ts, go, hw17c, hc, hr]
  · have hr : ndC x y = orI (cmpI x.type y.type) (cmpI (x.arcs.length : Int) (y.arcs.length : Int)) := by unfold ndC; rw [if_pos h0]
    have h0' := neq_zero h0
    simp -implicitDefEqProofs [M_graph_compareNodes, c1, c2, loadM, x.ok.len, y.ok.len, tw17c, gCmp_eq, ts, go, h0, h0', hr]
noncomputable def gNdC : List T → Option T := g2 (tAg eNd) (tAg eNd) fun x y => if x.arcs.length ≤ 1000000 ∧ y.arcs.length ≤ 1000000 then some (iv (ndC x y)) else none
theorem gNdC_ok : GOK Try.prog G 84 gNdC := g2_ok fun a b x y r ha hb hr => by
  obtain rfl : a = .ag (eNd.enc x) := ha
  obtain rfl : b = .ag (eNd.enc y) := hb
  split at hr
  · rename_i h; injection hr with hr; subst hr; exact ndC_call x y h.1 h.2
  · cases hr

def S83 (t u : T) (n j : Nat) : AState := ⟨[(13, .t (iv (j : Int))), (12, .t (iv (n : Int))), (11, .t t), (2, .t (fnV 84)), (1, .t u), (0, .t t)], [], 0, 39⟩
noncomputable def ht83 : HTbl := [(84, hOfT gNdC)]
theorem cth83 : Ctx Try.prog G (orh [] ht83) := TblOK.nil.ctxH (HTblOK.cons gNdC_ok.hok .nil) mixed
theorem cf83_call {t u : T} {l m : List Nd} (ht : IsS eNd t l) (hu : IsS eNd u m) (hl : l.length ≤ 1000000) (hm : m.length ≤ 1000000) (hla : ∀ x ∈ l, x.arcs.length ≤ 1000000) (hma : ∀ x ∈ m, x.arcs.length ≤ 1000000) : CallT Try.prog G 83 [t, u, fnV 84] (· = iv (cfV ndC l m)) := by
  refine k_slices_CompareFunc.call rfl ?_
  unfold M_slices_CompareFunc
  refine mc_seq_runs cth83 ?_
  simp -implicitDefEqProofs
  obtain ⟨n, hle, h0, hn⟩ := fst_cases (cfE ndC l m) l.length
  refine mc_cut (fun _ : Unit => S83 t u l.length l.length) (fun _ => fst (cfE ndC l m) l.length = 0) (fun _ => rfl) ?_ ?_
  · refine mc_seq_runs cth83 ?_
    simp -implicitDefEqProofs [ht.len]
    refine mc_block ?_
    refine mc_for (S83 t u l.length) n (fun _ => rfl) ?_ rfl ?_ ?_
    · refine sub_forget rfl rfl ?_ ?_ <;> simp -implicitDefEqProofs [S83]
    · intro j hj
      have hjl : j < l.length := by omega
      have hz := h0 j hj
      have hjm : j < m.length := by
        apply Classical.byContradiction
        intro h
        simp [cfE, List.getElem?_eq_getElem hjl, List.getElem?_eq_none (Nat.le_of_not_lt h)] at hz
      have hjm' : ¬ (m.length : Int) ≤ (j : Int) := by omega
      have hjm2 : ¬ m.length ≤ j := by omega
      obtain ⟨x, hx⟩ : ∃ x, l[j]? = some x := ⟨_, List.getElem?_eq_getElem hjl⟩
      obtain ⟨y, hy⟩ : ∃ y, m[j]? = some y := ⟨_, List.getElem?_eq_getElem hjm⟩
      simp only [cfE, hx, hy] at hz
      have ix := ia_Nd ht hx
      have iy := ia_Nd hu hy
      have e1 : IntKind.i64.wrap ((j : Int) + 1) = ((j + 1 : Nat) : Int) := wrap_nat (by omega) (by omega)
      have cx : cellsP (.t (.ag [iv x.type, x.tree])) = some [.t (iv x.type), .t x.tree] := rfl
      have cy : cellsP (.t (.ag [iv y.type, y.tree])) = some [.t (iv y.type), .t y.tree] := rfl
      have ax : agOf [.t (iv x.type), .t x.tree] = .t (.ag [iv x.type, x.tree]) := rfl
      have ay : agOf [.t (iv y.type), .t y.tree] = .t (.ag [iv y.type, y.tree]) := rfl
      have gc : gNdC [.ag [iv x.type, x.tree], .ag [iv y.type, y.tree]] = some (iv (ndC x y)) := (g2_eq (τ := tAg eNd) (σ := tAg eNd) (x := x) (y := y) rfl rfl).trans (if_pos ⟨hla x (List.mem_of_getElem? hx), hma y (List.mem_of_getElem? hy)⟩)
      rw [hz] at gc
      have hc := fun H nx => hOfT_eq2 gc rfl H nx
      refine mc_runs cth83 ?_
      simp -implicitDefEqProofs [S83, fnV, hjl, hjm', hjm2, ix, iy, hu.len, loadM, storeM, cx, cy, ax, ay, splice, ht83, hc, e1]
      exact sub_R (by omega) (fun q hq => by cases hq) (by simp -implicitDefEqProofs [under])
    · refine mc_runs cth83 ?_
      rcases hn with ⟨e, hz⟩ | ⟨hjl, hk, he⟩
      · have hnl : ¬ n < l.length := by omega
        simp -implicitDefEqProofs [S83, hnl]
        exact Next.mk () hz (sub_forget rfl rfl (by simp -implicitDefEqProofs [e]) (by simp -implicitDefEqProofs))
      · have hres : cfV ndC l m = cfE ndC l m n := by unfold cfV; rw [if_pos (by rw [he]; exact hk), he]
        obtain ⟨x, hx⟩ : ∃ x, l[n]? = some x := ⟨_, List.getElem?_eq_getElem hjl⟩
        have ix := ia_Nd ht hx
        have cx : cellsP (.t (.ag [iv x.type, x.tree])) = some [.t (iv x.type), .t x.tree] := rfl
        have ax : agOf [.t (iv x.type), .t x.tree] = .t (.ag [iv x.type, x.tree]) := rfl
        by_cases hjm : n < m.length
        · have hjm' : ¬ (m.length : Int) ≤ (n : Int) := by omega
          have hjm2 : ¬ m.length ≤ n := by omega
          obtain ⟨y, hy⟩ : ∃ y, m[n]? = some y := ⟨_, List.getElem?_eq_getElem hjm⟩
          simp only [cfE, hx, hy] at hk hres
          have iy := ia_Nd hu hy
          have cy : cellsP (.t (.ag [iv y.type, y.tree])) = some [.t (iv y.type), .t y.tree] := rfl
          have ay : agOf [.t (iv y.type), .t y.tree] = .t (.ag [iv y.type, y.tree]) := rfl
          have gc : gNdC [.ag [iv x.type, x.tree], .ag [iv y.type, y.tree]] = some (iv (ndC x y)) := (g2_eq (τ := tAg eNd) (σ := tAg eNd) (x := x) (y := y) rfl rfl).trans (if_pos ⟨hla x (List.mem_of_getElem? hx), hma y (List.mem_of_getElem? hy)⟩)
          have hc := fun H nx => hOfT_eq2 gc rfl H nx
          have hk' := neq_zero hk
          simp -implicitDefEqProofs [S83, fnV, hjl, hjm', hjm2, ix, iy, hu.len, loadM, storeM, cx, cy, ax, ay, splice, ht83, hc, hk, hk', hres]
        · have hjm' : (m.length : Int) ≤ (n : Int) := by omega
          have hjm2 : m.length ≤ n := by omega
          simp only [cfE, hx, List.getElem?_eq_none hjm2] at hres
          simp -implicitDefEqProofs [S83, fnV, hjl, hjm', hjm2, ix, hu.len, loadM, storeM, cx, ax, splice, hres]
  · rintro _ e
    have hres : cfV ndC l m = if l.length < m.length then -1 else 0 := by unfold cfV; rw [if_neg (by rw [e]; simp)]
    refine mc_runs cth83 ?_
    by_cases hlt : l.length < m.length
    · rw [if_pos hlt] at hres
      simp -implicitDefEqProofs [S83, ht.len, hu.len, hlt, hres]
    · rw [if_neg hlt] at hres
      simp -implicitDefEqProofs [S83, ht.len, hu.len, hlt, hres]

noncomputable def gCf : List T → Option T := g3 (tSl eNd) (tSl eNd) (tFn 84) fun l m _ => open Classical in if Small l ∧ Small m then some (iv (cfV ndC l m)) else none
theorem gCf_ok : GOK Try.prog G 83 gCf := g3_ok fun a b c l m _ r ha hb hc hr => by
  obtain rfl : c = fnV 84 := hc
  split at hr
  · rename_i h
    injection hr with hr
    subst hr
    have h1 := h.1.len
    have h2 := h.2.len
    exact cf83_call ha hb (by omega) (by omega) h.1.arcs h.2.arcs
  · cases hr
theorem gCf_eq {t u : T} {l m : List Nd} (ht : IsS eNd t l) (hu : IsS eNd u m) (hl : Small l) (hm : Small m) : gCf [t, u, fnV 84] = some (iv (cfV ndC l m)) :=
  (g3_eq (τ := tSl eNd) (σ := tSl eNd) (ρ := tFn 84) (z := ()) ht hu rfl).trans (if_pos ⟨hl, hm⟩)
def graphC (l m : List Nd) : Int := if cmpI (l.length : Int) (m.length : Int) ≠ 0 then cmpI (l.length : Int) (m.length : Int) else cfV ndC l m
theorem graphC_zero {l m : List Nd} : graphC l m = 0 ↔ l.map Nd.key = m.map Nd.key := by
  unfold graphC
  constructor
  · intro h
    split at h
    · rename_i h0; exact absurd h h0
    · obtain ⟨h1, h2⟩ := cfV_zero.1 h
      refine List.ext_getElem (by simpa using h1) fun i hi hi' => ?_
      simp only [List.getElem_map]
      exact ndC_zero.1 (h2 i _ _ (List.getElem?_eq_getElem (by simpa using hi)) (List.getElem?_eq_getElem (by simpa using hi')))
  · intro h
    have hl : l.length = m.length := by simpa using congrArg List.length h
    rw [if_neg (by rw [cmpI_zero.2 (by omega)]; simp)]
    refine cfV_zero.2 ⟨hl, fun i x y hx hy => ndC_zero.2 ?_⟩
    have h1 : (l.map Nd.key)[i]? = some x.key := by rw [List.getElem?_map, hx]; rfl
    have h2 : (m.map Nd.key)[i]? = some y.key := by rw [List.getElem?_map, hy]; rfl
    rw [h, h2] at h1
    injection h1 with h1
    exact h1.symm
noncomputable def hw17d : HTbl := [(83, hOfT gCf)]
noncomputable def tw17d : Tbl := [(82, gCmp)]
theorem ctw17d : Ctx Try.prog G (orh tw17d hw17d) := (TblOK.cons gCmp_ok .nil).ctxH (HTblOK.cons gCf_ok.hok .nil) mixed
theorem graphC_call {t u : T} {l m : List Nd} (ht : IsS eNd t l) (hu : IsS eNd u m) (hl : Small l) (hm : Small m) : CallT Try.prog G 58 [.ag [t], .ag [u]] (· = iv (graphC l m)) := by
  have c1 : cellsP (.t (.ag [t])) = some [.t t] := rfl
  have c2 : cellsP (.t (.ag [u])) = some [.t u] := rfl
  have hc := fun H nx => hOfT_eq3 (gCf_eq ht hu hl hm) rfl H nx
  unfold fnV at hc
  have gc := gCmp_eq (l.length : Int) (m.length : Int)
  refine k_graph_Compare.runs ctw17d rfl ?_
  by_cases h0 : cmpI (l.length : Int) (m.length : Int) = 0
  · have hr : graphC l m = cfV ndC l m := by unfold graphC; rw [if_neg (by rw [h0]; simp)]
    rw [h0] at gc
    simp -implicitDefEqProofs [M_graph_Compare, c1, c2, loadM, ht.len, hu.len, tw17d, gc, hw17d, hc, hr]
  · have hr : graphC l m = cmpI (l.length : Int) (m.length : Int) := by unfold graphC; rw [if_pos h0]
    have h0' := neq_zero h0
    simp -implicitDefEqProofs [M_graph_Compare, c1, c2, loadM, ht.len, hu.len, tw17d, gc, h0, h0', hr]
noncomputable def gGraphC : List T → Option T := g2 tFS tFS fun a b => open Classical in if Small a ∧ Small b then some (iv (graphC a b)) else none
theorem gGraphC_ok : GOK Try.prog G 58 gGraphC := g2_ok fun a b x y r ha hb hr => by
  obtain ⟨u, rfl, hu⟩ := ha
  obtain ⟨v, rfl, hv⟩ := hb
  split at hr
  · rename_i h; injection hr with hr; subst hr; exact graphC_call hu hv h.1 h.2
  · cases hr
theorem gGraphC_eq {t t' : T} {a b : List Nd} (ht : IsS eNd t a) (ht' : IsS eNd t' b) (ha : Small a) (hb : Small b) : gGraphC [.ag [t], .ag [t']] = some (iv (graphC a b)) :=
  (g2_eq (τ := tFS) (σ := tFS) ⟨t, rfl, ht⟩ ⟨t', rfl, ht'⟩).trans (if_pos ⟨ha, hb⟩)
noncomputable def tw17e : Tbl := [(58, gGraphC)]
theorem ctw17e : Ctx Try.prog G (orc tw17e) := (TblOK.cons gGraphC_ok .nil).ctx mixed
/-- The program's Equal is the document's. -/
theorem gequal_call {t t' : T} {a b : List Nd} (ht : IsS eNd t a) (ht' : IsS eNd t' b) (ha : Small a) (hb : Small b) : CallT Try.prog G 25 [.ag [t], .ag [t']] (· = bv (eqE a b)) := by
  have cp : cellsP (.t (.ag [t])) = some [.t t] := rfl
  have cp' : cellsP (.t (.ag [t'])) = some [.t t'] := rfl
  have ag : agOf [.t t] = .t (.ag [t]) := rfl
  have ag' : agOf [.t t'] = .t (.ag [t']) := rfl
  have g := gGraphC_eq ht ht' ha hb
  have he : (graphC a b == 0) = eqE a b := by
    rw [Bool.eq_iff_iff, beq_iff_eq, graphC_zero, eqE_iff]
  refine k_graph_Equal.runs ctw17e rfl ?_
  simp -implicitDefEqProofs [M_graph_Equal, cp, cp', loadM, ag, ag', tw17e, g, he]
theorem gGEqual_ok : GOK Try.prog G 25 gEqual7 := g2_ok fun a b x y r ha hb hr => by
  obtain ⟨u, rfl, hu⟩ := ha
  obtain ⟨v, rfl, hv⟩ := hb
  split at hr
  · rename_i h; injection hr with hr; subst hr; exact gequal_call hu hv h.1 h.2
  · cases hr
end Go.Proofs.Ytbiadmfmjnoecaa

namespace Go.Proofs.Ytbiadmfmjnoecaa
set_option linter.unusedSimpArgs false
set_option linter.unusedVariables false
open Go Go.Abs

def relN (up down : Bool) : Int := if up && down then 0 else if up then 1 else if down then 2 else 3
noncomputable def relM (ty : List Typ) (a b : List Nd) : Int := relN (morB ty a b) (morB ty b a)
theorem MapOK.symm {h : List Typ × List Ft} {a b : List Nd} (hm : MapOK h a b) : MapOK h b a := ⟨hm.1, ⟨hm.2.1.2, hm.2.1.1⟩, hm.2.2.2, hm.2.2.1⟩
noncomputable def gRel : List T → Option T := g3 tH tFS tFS fun h a b => open Classical in if MapOK h a b then some (iv (relM h.1 a b)) else none
theorem gRel_eq {u v ta tb : T} {h : List Typ × List Ft} {a b : List Nd} (hu : IsS eTyp u h.1) (hv : IsS eFt v h.2) (hta : IsS eNd ta a) (htb : IsS eNd tb b) (hm : MapOK h a b) : gRel [.ag [u, v], .ag [ta], .ag [tb]] = some (iv (relM h.1 a b)) :=
  (g3_eq (τ := tH) (σ := tFS) (ρ := tFS) ⟨u, v, rfl, hu, hv⟩ ⟨ta, rfl, hta⟩ ⟨tb, rfl, htb⟩).trans (if_pos hm)
noncomputable def tw18 : Tbl := [(21, gSubs9), (57, gSubs9)]
theorem ctw18 : Ctx Try.prog G (orc tw18) := (TblOK.cons ssubs_ok (.cons rsubs_ok .nil)).ctx mixed
theorem srel_ok : GOK Try.prog G 22 gRel := g3_ok fun x y z h a b r hx hy hz hr => by
  obtain ⟨u, v, rfl, hu, hv⟩ := hx
  obtain ⟨ta, rfl, hta⟩ := hy
  obtain ⟨tb, rfl, htb⟩ := hz
  split at hr
  · rename_i hm
    injection hr with hr
    subst hr
    have g1 := gSubs9_eq hu hv hta htb hm
    have g2 := gSubs9_eq hu hv htb hta hm.symm
    have c1 : cellsP (.t (.ag [u, v])) = some [.t u, .t v] := rfl
    have c2 : cellsP (.t (.ag [ta])) = some [.t ta] := rfl
    have c3 : cellsP (.t (.ag [tb])) = some [.t tb] := rfl
    have a1 : agOf [.t u, .t v] = .t (.ag [u, v]) := rfl
    have a2 : agOf [.t ta] = .t (.ag [ta]) := rfl
    have a3 : agOf [.t tb] = .t (.ag [tb]) := rfl
    refine k_subsume_Compare.runs ctw18 rfl ?_
    unfold relM
    generalize morB h.1 a b = p at *
    generalize morB h.1 b a = q at *
    cases p <;> cases q <;> simp -implicitDefEqProofs [M_subsume_Compare, c1, c2, c3, a1, a2, a3, loadM, tw18, g1, g2, relN]
  · cases hr
theorem rrel_ok : GOK Try.prog G 23 gRel := g3_ok fun x y z h a b r hx hy hz hr => by
  obtain ⟨u, v, rfl, hu, hv⟩ := hx
  obtain ⟨ta, rfl, hta⟩ := hy
  obtain ⟨tb, rfl, htb⟩ := hz
  split at hr
  · rename_i hm
    injection hr with hr
    subst hr
    have g1 := gSubs9_eq hu hv hta htb hm
    have g2 := gSubs9_eq hu hv htb hta hm.symm
    have c1 : cellsP (.t (.ag [u, v])) = some [.t u, .t v] := rfl
    have c2 : cellsP (.t (.ag [ta])) = some [.t ta] := rfl
    have c3 : cellsP (.t (.ag [tb])) = some [.t tb] := rfl
    have a1 : agOf [.t u, .t v] = .t (.ag [u, v]) := rfl
    have a2 : agOf [.t ta] = .t (.ag [ta]) := rfl
    have a3 : agOf [.t tb] = .t (.ag [tb]) := rfl
    refine k_r09_Compare.runs ctw18 rfl ?_
    unfold relM
    generalize morB h.1 a b = p at *
    generalize morB h.1 b a = q at *
    cases p <;> cases q <;> simp -implicitDefEqProofs [M_r09_Compare, c1, c2, c3, a1, a2, a3, loadM, tw18, g1, g2, relN]
  · cases hr

/-! Maximal. -/
def nodesAt (l : List FSv) (i : Nat) : List Nd := ((l[i]?).map FSv.nodes).getD []
noncomputable def badAt (ty : List Typ) (l : List FSv) (i k : Nat) : Bool := (decide (k < i) && eqE (nodesAt l k) (nodesAt l i)) || (relM ty (nodesAt l k) (nodesAt l i) == 1)
noncomputable def badE (ty : List Typ) (l : List FSv) (i k : Nat) : Int := if badAt ty l i k then 1 else 0
noncomputable def keptB (ty : List Typ) (l : List FSv) (i : Nat) : Bool := decide (fst (badE ty l i) l.length = 0)
noncomputable def mxUp (ty : List Typ) (l : List FSv) : Nat → List Int
  | 0 => []
  | i + 1 => mxUp ty l i ++ if keptB ty l i then [(i : Int)] else []
theorem mxUp_len (ty : List Typ) (l : List FSv) : ∀ i, (mxUp ty l i).length ≤ i
  | 0 => Nat.le_refl _
  | i + 1 => by
    have := mxUp_len ty l i
    simp only [mxUp, List.length_append]
    split
    · simp; omega
    · simp; omega
/-- All of l is valid. -/
def AllOK (h : List Typ × List Ft) (l : List FSv) : Prop := TyOK h.1 ∧ ∀ x ∈ l, Small x.nodes ∧ Valid h.1.length h.2.length x.nodes
theorem AllOK.map {h : List Typ × List Ft} {l : List FSv} (ha : AllOK h l) {i j : Nat} {x y : FSv} (hx : l[i]? = some x) (hy : l[j]? = some y) : MapOK h x.nodes y.nodes := by
  have h1 := ha.2 x (List.mem_of_getElem? hx)
  have h2 := ha.2 y (List.mem_of_getElem? hy)
  exact ⟨ha.1, ⟨h1.2, h2.2⟩, h1.1, h2.1⟩
theorem nodesAt_eq {l : List FSv} {i : Nat} {x : FSv} (h : l[i]? = some x) : nodesAt l i = x.nodes := by simp [nodesAt, h]
noncomputable def tw18b : Tbl := [(25, gEqual7), (22, gRel), (23, gRel), (33, gEqual7)]
theorem ctw18b : Ctx Try.prog G (orc tw18b) := (TblOK.cons gGEqual_ok (.cons srel_ok (.cons rrel_ok (.cons gEqual7_ok .nil)))).ctx mixed
noncomputable def SM26 (tt tf tl : T) (ty : List Typ) (l : List FSv) (i : Nat) : AState := ⟨[(11, .t (iv (i : Int))), (10, .t (iv (l.length : Int))), (9, .t tl), (5, rowP eInt 1 (mxUp ty l i)), (2, .ptr 0 0), (1, .t tl)], R16 tt tf ++ rowH eInt 3 1 (mxUp ty l i), 2, 54⟩
noncomputable def SM26e (tt tf tl : T) (ty : List Typ) (l : List FSv) (i : Nat) : AState := ⟨[(11, .t (iv (i : Int))), (10, .t (iv (l.length : Int))), (9, .t tl), (5, rowP eInt 1 (mxUp ty l (i + 1))), (2, .ptr 0 0), (1, .t tl)], R16 tt tf ++ rowH eInt 3 1 (mxUp ty l (i + 1)), 2, 54⟩
noncomputable def SM26i (tt tf tl : T) (ty : List Typ) (l : List FSv) (i k : Nat) : AState := ⟨[(16, .t (iv (k : Int))), (15, .t (iv (l.length : Int))), (7, .t (bv true)), (6, .t (iv (i : Int))), (11, .t (iv (i : Int))), (10, .t (iv (l.length : Int))), (9, .t tl), (5, rowP eInt 1 (mxUp ty l i)), (2, .ptr 0 0), (1, .t tl)], R16 tt tf ++ rowH eInt 3 1 (mxUp ty l i), 2, 54⟩
noncomputable def SM26m (tt tf tl : T) (ty : List Typ) (l : List FSv) (i : Nat) : AState := ⟨[(7, .t (bv (keptB ty l i))), (6, .t (iv (i : Int))), (11, .t (iv (i : Int))), (10, .t (iv (l.length : Int))), (9, .t tl), (5, rowP eInt 1 (mxUp ty l i)), (2, .ptr 0 0), (1, .t tl)], R16 tt tf ++ rowH eInt 3 1 (mxUp ty l i), 2, 54⟩
theorem subR16 {tt tf : T} {H : Heap} {k : Nat} (h : Abs.look H 0 = some (.cells 29 [.t tt, .t tf])) (hk : k ≠ 0) : ∀ q ∈ R16 tt tf, Abs.look H q.1 = some (renRow (fun x => if x = 1 then k else x) q.2) ∧ q.1 < 2 ∧ q.1 ≠ 1 ∧ q.1 ≠ k ∧ underRow 2 q.2 = true := by
  intro q hq
  simp only [R16, List.mem_cons, List.not_mem_nil, or_false] at hq
  subst hq
  exact ⟨h, by omega, by omega, by show 0 ≠ k; omega, rfl⟩
set_option maxHeartbeats 4000000 in
theorem smax_call {tt tf tl : T} {h : List Typ × List Ft} {l : List FSv} (hT : IsS eTyp tt h.1) (hF : IsS eFt tf h.2) (ht : IsS eFS tl l) (hl : l.length ≤ 100000) (ha : AllOK h l) : CallT Try.prog G 26 [.ag [tt, tf], tl] (· = treeS eInt (mxUp h.1 l l.length)) := by
  have cph : cellsP (.t (.ag [tt, tf])) = some [.t tt, .t tf] := rfl
  have agh : agOf [.t tt, .t tf] = .t (.ag [tt, tf]) := rfl
  have hz : eInt.z = 1 := rfl
  refine k_subsume_Maximal.call rfl ?_
  unfold M_subsume_Maximal
  refine mc_seq_runs ctw18b ?_
  simp -implicitDefEqProofs [cph]
  refine mc_seq_runs ctw18b ?_
  simp -implicitDefEqProofs
  refine mc_cut (fun _ : Unit => SM26 tt tf tl h.1 l l.length) (fun _ => True) (fun _ => rfl) ?_ ?_
  · refine mc_seq_runs ctw18b ?_
    simp -implicitDefEqProofs [ht.len]
    refine mc_block ?_
    refine mc_for (SM26 tt tf tl h.1 l) l.length (fun _ => rfl) ?_ rfl ?_ ?_
    · exact sub_rowR (k := 1) (RowAt.nil _ _ _ _) (by omega) (by omega) (subR16 rfl (by omega)) (by simp -implicitDefEqProofs [mxUp, rowP, ren, under])
    · intro i hi
      obtain ⟨x, hx⟩ : ∃ x, l[i]? = some x := ⟨_, List.getElem?_eq_getElem hi⟩
      have e1 : IntKind.i64.wrap ((i : Int) + 1) = ((i + 1 : Nat) : Int) := wrap_nat (by omega) (by omega)
      have ix := ia_FS ht hx
      have hml := mxUp_len h.1 l i
      obtain ⟨mu, hmu⟩ : ∃ mu, mu = mxUp h.1 l i := ⟨_, rfl⟩
      rw [← hmu] at hml
      obtain ⟨H0, hH0⟩ : ∃ H0, H0 = R16 tt tf ++ rowH eInt 3 1 mu := ⟨_, rfl⟩
      have l0 : Abs.look H0 0 = some (.cells 29 [.t tt, .t tf]) := by rw [hH0]; rfl
      have r1 : RowAt eInt 3 H0 1 mu := by rw [hH0]; exact RowAt.right (RowAt.head' _ _ _ _) (by simp [R16])
      have ldh : loadM true 2 H0 (.ptr 0 0) = some (.t (.ag [tt, tf])) := by simp [loadM, l0, agh]
      have hnext : mxUp h.1 l (i + 1) = mu ++ if keptB h.1 l i then [(i : Int)] else [] := by rw [hmu]; rfl
      refine mc_seq_runs ctw18b ?_
      simp -implicitDefEqProofs [SM26, ← hmu, ← hH0, hi]
      refine mc_seq_runs ctw18b ?_
      simp -implicitDefEqProofs
      refine mc_cut (fun _ : Unit => SM26e tt tf tl h.1 l i) (fun _ => True) (fun _ => rfl) ?_ ?_
      · refine mc_block ?_
        refine mc_seq_runs ctw18b ?_
        simp -implicitDefEqProofs
        refine mc_seq_runs ctw18b ?_
        simp -implicitDefEqProofs
        obtain ⟨n, hle, h0, hn⟩ := fst_cases (badE h.1 l i) l.length
        refine mc_cut (fun _ : Unit => SM26m tt tf tl h.1 l i) (fun _ => True) (fun _ => rfl) ?_ ?_
        · refine mc_seq_runs ctw18b ?_
          simp -implicitDefEqProofs [ht.len]
          refine mc_block ?_
          have laF : ∀ (y : FSv) cs, loadM true 1 H0 (.t (.pt (y.tree :: cs))) = some (.t (.ag [y.tree])) := fun y cs => by simp [loadM]
          refine mc_for (SM26i tt tf tl h.1 l i) n (fun _ => rfl) ?_ rfl ?_ ?_
          · unfold SM26i
            rw [← hmu, ← hH0]
            exact sub_env (by simp -implicitDefEqProofs)
          · intro k hk
            have hkl : k < l.length := by omega
            obtain ⟨y, hy⟩ : ∃ y, l[k]? = some y := ⟨_, List.getElem?_eq_getElem hkl⟩
            have iy := ia_FS ht hy
            have e2 : IntKind.i64.wrap ((k : Int) + 1) = ((k + 1 : Nat) : Int) := wrap_nat (by omega) (by omega)
            have hm := ha.map hy hx
            have ge := gEqual7_eq y.ok x.ok hm.2.2.1 hm.2.2.2
            have gr := gRel_eq hT hF y.ok x.ok hm
            have hb : badAt h.1 l i k = false := by
              have := h0 k hk
              unfold badE at this
              cases hb : badAt h.1 l i k with
              | false => rfl
              | true => rw [hb] at this; simp at this
            unfold badAt at hb
            rw [nodesAt_eq hy, nodesAt_eq hx] at hb
            generalize eqE y.nodes x.nodes = be at *
            obtain ⟨rv, hrv⟩ : ∃ rv, rv = relM h.1 y.nodes x.nodes := ⟨_, rfl⟩
            rw [← hrv] at hb gr
            rw [Bool.or_eq_false_iff] at hb
            have hne := hb.2
            have hne' : ¬ rv = 1 := by simpa using hne
            refine mc_runs ctw18b ?_
            unfold SM26i
            rw [← hmu, ← hH0]
            by_cases hki : k < i
            · have hbe : be = false := by simpa [hki] using hb.1
              subst hbe
              simp -implicitDefEqProofs [hkl, hki, iy, ix, laF, ldh, tw18b, ge, gr, hne, hne', e2]
              exact sub_env (by simp -implicitDefEqProofs)
            · simp -implicitDefEqProofs [hkl, hki, iy, ix, laF, ldh, tw18b, gr, hne, hne', e2]
              exact sub_env (by simp -implicitDefEqProofs)
          · refine mc_runs ctw18b ?_
            rcases hn with ⟨e, hz0⟩ | ⟨hkl, hk, he⟩
            · have hnl : ¬ n < l.length := by omega
              have hkept : keptB h.1 l i = true := by simp [keptB, hz0]
              unfold SM26i SM26m
              rw [← hmu, ← hH0, hkept]
              simp -implicitDefEqProofs [hnl]
              exact Next.mk () trivial (sub_env (by simp -implicitDefEqProofs))
            · have hkept : keptB h.1 l i = false := by unfold keptB; rw [he]; simp [hk]
              obtain ⟨y, hy⟩ : ∃ y, l[n]? = some y := ⟨_, List.getElem?_eq_getElem hkl⟩
              have iy := ia_FS ht hy
              have hm := ha.map hy hx
              have ge := gEqual7_eq y.ok x.ok hm.2.2.1 hm.2.2.2
              have gr := gRel_eq hT hF y.ok x.ok hm
              have hb : badAt h.1 l i n = true := by
                unfold badE at hk
                cases hb : badAt h.1 l i n with
                | true => rfl
                | false => rw [hb] at hk; simp at hk
              unfold badAt at hb
              rw [nodesAt_eq hy, nodesAt_eq hx] at hb
              generalize eqE y.nodes x.nodes = be at *
              obtain ⟨rv, hrv⟩ : ∃ rv, rv = relM h.1 y.nodes x.nodes := ⟨_, rfl⟩
              rw [← hrv] at hb gr
              unfold SM26i SM26m
              rw [← hmu, ← hH0, hkept]
              by_cases hki : n < i
              · cases be with
                | true =>
                  simp -implicitDefEqProofs [hkl, hki, iy, ix, laF, tw18b, ge]
                  exact Next.mk () trivial (sub_env (by simp -implicitDefEqProofs))
                | false =>
                  have hne' : rv = 1 := by simpa using hb
                  subst hne'
                  simp -implicitDefEqProofs [hkl, hki, iy, ix, laF, ldh, tw18b, ge, gr]
                  exact Next.mk () trivial (sub_env (by simp -implicitDefEqProofs))
              · have hne' : rv = 1 := by simpa [hki] using hb
                subst hne'
                simp -implicitDefEqProofs [hkl, hki, iy, ix, laF, ldh, tw18b, gr]
                exact Next.mk () trivial (sub_env (by simp -implicitDefEqProofs))
        · rintro _ -
          refine mc_runs ctw18b ?_
          unfold SM26m SM26e
          rw [← hmu, ← hH0, hnext]
          cases hkb : keptB h.1 l i with
          | false =>
            simp only [Bool.false_eq_true, if_false, List.append_nil]
            rw [← hH0]
            simp -implicitDefEqProofs
            exact Next.mk () trivial (sub_env (by simp -implicitDefEqProofs))
          | true =>
            simp only [if_true]
            have bs : bsliceM 3 1 [.int .i64 0] 1 [(0, .t (iv (i : Int)))] 2 = some (.row 2 0 1 1, .cells 3 ((eInt.enc (i : Int)).map .t)) := rfl
            obtain ⟨b2, H2, n2, ap2, r2, ne2, le2, lk2, ge2⟩ := app_some (e := eInt) (ty := 3) (by' := 8) (nx := 3) (m := [(i : Int)]) (r1.cons (k := 2) (r := .cells 3 ((eInt.enc (i : Int)).map .t)) (by omega)) (src_one (b := 2) (ty := 3) (i : Int) (by simp)) (by simp; omega) (by simp; omega)
            rw [hz] at ap2
            simp -implicitDefEqProofs [bs, ap2]
            exact Next.mk () trivial (sub_rowR (k := b2) r2 (by omega) (by omega) (subR16 (by rw [lk2 0 (by omega) (by omega), look_cons, if_neg (by omega)]; exact l0) (by omega)) (by simp -implicitDefEqProofs [ren_rowP, under_rowP, ren, under]))
      · rintro _ -
        refine mc_runs ctw18b ?_
        simp -implicitDefEqProofs [SM26e, e1]
        exact sub_env (by simp -implicitDefEqProofs)
    · refine mc_runs ctw18b ?_
      simp -implicitDefEqProofs [SM26]
      exact Next.mk () trivial (sub_env (by simp -implicitDefEqProofs))
  · rintro _ -
    refine mc_runs ctw18b ?_
    have tt' := RowAt.toT (RowAt.right (R := R16 tt tf) (RowAt.head' eInt 3 1 (mxUp h.1 l l.length)) (by simp [R16]))
    simp -implicitDefEqProofs [SM26, tt']

noncomputable def freeK (ty : List Typ) (l : List FSv) (i k : Nat) : Bool := decide (fst (badE ty l i) k = 0)
theorem freeK_succ (ty : List Typ) (l : List FSv) (i k : Nat) : freeK ty l i (k + 1) = (freeK ty l i k && !badAt ty l i k) := by
  unfold freeK
  have e : fst (badE ty l i) (k + 1) = if fst (badE ty l i) k = 0 then badE ty l i k else fst (badE ty l i) k := rfl
  rw [e]
  by_cases h : fst (badE ty l i) k = 0
  · rw [if_pos h, h]
    unfold badE
    cases badAt ty l i k <;> simp
  · rw [if_neg h]
    simp [h]
noncomputable def SM27 (tt tf tl : T) (ty : List Typ) (l : List FSv) (i : Nat) : AState := ⟨[(6, .t (iv (i : Int))), (5, rowP eInt 1 (mxUp ty l i)), (2, .ptr 0 0), (1, .t tl)], R16 tt tf ++ rowH eInt 3 1 (mxUp ty l i), 2, 58⟩
noncomputable def SM27e (tt tf tl : T) (ty : List Typ) (l : List FSv) (i : Nat) : AState := ⟨[(6, .t (iv (i : Int))), (5, rowP eInt 1 (mxUp ty l (i + 1))), (2, .ptr 0 0), (1, .t tl)], R16 tt tf ++ rowH eInt 3 1 (mxUp ty l (i + 1)), 2, 58⟩
noncomputable def SM27i (tt tf tl : T) (ty : List Typ) (l : List FSv) (i k : Nat) : AState := ⟨[(8, .t (iv (k : Int))), (7, .t (bv (freeK ty l i k))), (6, .t (iv (i : Int))), (5, rowP eInt 1 (mxUp ty l i)), (2, .ptr 0 0), (1, .t tl)], R16 tt tf ++ rowH eInt 3 1 (mxUp ty l i), 2, 58⟩
set_option maxHeartbeats 4000000 in
theorem rmax_call {tt tf tl : T} {h : List Typ × List Ft} {l : List FSv} (hT : IsS eTyp tt h.1) (hF : IsS eFt tf h.2) (ht : IsS eFS tl l) (hl : l.length ≤ 100000) (ha : AllOK h l) : CallT Try.prog G 27 [.ag [tt, tf], tl] (· = treeS eInt (mxUp h.1 l l.length)) := by
  have cph : cellsP (.t (.ag [tt, tf])) = some [.t tt, .t tf] := rfl
  have agh : agOf [.t tt, .t tf] = .t (.ag [tt, tf]) := rfl
  have hz : eInt.z = 1 := rfl
  refine k_r09_Maximal.call rfl ?_
  unfold M_r09_Maximal
  refine mc_seq_runs ctw18b ?_
  simp -implicitDefEqProofs [cph]
  refine mc_seq_runs ctw18b ?_
  simp -implicitDefEqProofs
  refine mc_cut (fun _ : Unit => SM27 tt tf tl h.1 l l.length) (fun _ => True) (fun _ => rfl) ?_ ?_
  · refine mc_seq_runs ctw18b ?_
    simp -implicitDefEqProofs
    refine mc_block ?_
    refine mc_for (SM27 tt tf tl h.1 l) l.length (fun _ => rfl) ?_ rfl ?_ ?_
    · exact sub_rowR (k := 1) (RowAt.nil _ _ _ _) (by omega) (by omega) (subR16 rfl (by omega)) (by simp -implicitDefEqProofs [mxUp, rowP, ren, under])
    · intro i hi
      obtain ⟨x, hx⟩ : ∃ x, l[i]? = some x := ⟨_, List.getElem?_eq_getElem hi⟩
      have e1 : IntKind.i64.wrap ((i : Int) + 1) = ((i + 1 : Nat) : Int) := wrap_nat (by omega) (by omega)
      have ix := ia_FS ht hx
      have hml := mxUp_len h.1 l i
      obtain ⟨mu, hmu⟩ : ∃ mu, mu = mxUp h.1 l i := ⟨_, rfl⟩
      rw [← hmu] at hml
      obtain ⟨H0, hH0⟩ : ∃ H0, H0 = R16 tt tf ++ rowH eInt 3 1 mu := ⟨_, rfl⟩
      have l0 : Abs.look H0 0 = some (.cells 29 [.t tt, .t tf]) := by rw [hH0]; rfl
      have r1 : RowAt eInt 3 H0 1 mu := by rw [hH0]; exact RowAt.right (RowAt.head' _ _ _ _) (by simp [R16])
      have ldh : loadM true 2 H0 (.ptr 0 0) = some (.t (.ag [tt, tf])) := by simp [loadM, l0, agh]
      have laF : ∀ (y : FSv) cs, loadM true 1 H0 (.t (.pt (y.tree :: cs))) = some (.t (.ag [y.tree])) := fun y cs => by simp [loadM]
      have hnext : mxUp h.1 l (i + 1) = mu ++ if keptB h.1 l i then [(i : Int)] else [] := by rw [hmu]; rfl
      refine mc_seq_runs ctw18b ?_
      simp -implicitDefEqProofs [SM27, ← hmu, ← hH0, hi, ht.len]
      refine mc_cut (fun _ : Unit => SM27e tt tf tl h.1 l i) (fun _ => True) (fun _ => rfl) ?_ ?_
      · refine mc_block ?_
        refine mc_seq_runs ctw18b ?_
        simp -implicitDefEqProofs
        refine mc_cut (fun _ : Unit => SM27i tt tf tl h.1 l i l.length) (fun _ => True) (fun _ => rfl) ?_ ?_
        · refine mc_seq_runs ctw18b ?_
          simp -implicitDefEqProofs
          refine mc_block ?_
          refine mc_for (SM27i tt tf tl h.1 l i) l.length (fun _ => rfl) ?_ rfl ?_ ?_
          · have f0 : freeK h.1 l i 0 = true := rfl
            unfold SM27i
            rw [← hmu, ← hH0, f0]
            exact sub_env (by simp -implicitDefEqProofs)
          · intro k hkl
            obtain ⟨y, hy⟩ : ∃ y, l[k]? = some y := ⟨_, List.getElem?_eq_getElem hkl⟩
            have iy := ia_FS ht hy
            have e2 : IntKind.i64.wrap ((k : Int) + 1) = ((k + 1 : Nat) : Int) := wrap_nat (by omega) (by omega)
            have hm := ha.map hy hx
            have ge := gEqual7_eq y.ok x.ok hm.2.2.1 hm.2.2.2
            have gr := gRel_eq hT hF y.ok x.ok hm
            have hs := freeK_succ h.1 l i k
            have hb : badAt h.1 l i k = ((decide (k < i) && eqE y.nodes x.nodes) || (relM h.1 y.nodes x.nodes == 1)) := by unfold badAt; rw [nodesAt_eq hy, nodesAt_eq hx]
            rw [hb] at hs
            obtain ⟨rv, hrv⟩ : ∃ rv, rv = relM h.1 y.nodes x.nodes := ⟨_, rfl⟩
            rw [← hrv] at hs gr
            refine mc_runs ctw18b ?_
            unfold SM27i
            rw [← hmu, ← hH0, hs]
            generalize eqE y.nodes x.nodes = be at *
            generalize freeK h.1 l i k = fr at *
            cases fr with
            | false =>
              simp -implicitDefEqProofs [hkl, ht.len, e2]
              exact sub_env (by simp -implicitDefEqProofs)
            | true =>
              by_cases hr1 : rv = 1
              · subst hr1
                simp -implicitDefEqProofs [hkl, ht.len, iy, ix, laF, ldh, tw18b, gr, e2]
                exact sub_env (by simp -implicitDefEqProofs)
              · have hr2 : (rv == 1) = false := by rw [beq_eq_false_iff_ne]; exact hr1
                have hr3 : (rv != 1) = true := by simp [hr1]
                by_cases hki : k < i
                · have hki' : ¬ (i : Int) ≤ (k : Int) := by omega
                  have hki2 : ¬ i ≤ k := by omega
                  cases be <;> (simp -implicitDefEqProofs [hkl, ht.len, iy, ix, laF, ldh, tw18b, gr, ge, hr1, hr2, hr3, hki, hki', hki2, e2]; exact sub_env (by simp -implicitDefEqProofs [hr3]))
                · have hki' : (i : Int) ≤ (k : Int) := by omega
                  have hki2 : i ≤ k := by omega
                  simp -implicitDefEqProofs [hkl, ht.len, iy, ix, laF, ldh, tw18b, gr, hr1, hr2, hr3, hki, hki', hki2, e2]
                  exact sub_env (by simp -implicitDefEqProofs [hr3])
          · refine mc_runs ctw18b ?_
            simp -implicitDefEqProofs [SM27i, ht.len]
            exact Next.mk () trivial (sub_env (by simp -implicitDefEqProofs))
        · rintro _ -
          refine mc_runs ctw18b ?_
          have hkf : freeK h.1 l i l.length = keptB h.1 l i := rfl
          unfold SM27i SM27e
          rw [← hmu, ← hH0, hnext, hkf]
          cases hkb : keptB h.1 l i with
          | false =>
            simp only [Bool.false_eq_true, if_false, List.append_nil]
            rw [← hH0]
            simp -implicitDefEqProofs
            exact Next.mk () trivial (sub_env (by simp -implicitDefEqProofs))
          | true =>
            simp only [if_true]
            have bs : bsliceM 3 1 [.int .i64 0] 1 [(0, .t (iv (i : Int)))] 2 = some (.row 2 0 1 1, .cells 3 ((eInt.enc (i : Int)).map .t)) := rfl
            obtain ⟨b2, H2, n2, ap2, r2, ne2, le2, lk2, ge2⟩ := app_some (e := eInt) (ty := 3) (by' := 8) (nx := 3) (m := [(i : Int)]) (r1.cons (k := 2) (r := .cells 3 ((eInt.enc (i : Int)).map .t)) (by omega)) (src_one (b := 2) (ty := 3) (i : Int) (by simp)) (by simp; omega) (by simp; omega)
            rw [hz] at ap2
            simp -implicitDefEqProofs [bs, ap2]
            exact Next.mk () trivial (sub_rowR (k := b2) r2 (by omega) (by omega) (subR16 (by rw [lk2 0 (by omega) (by omega), look_cons, if_neg (by omega)]; exact l0) (by omega)) (by simp -implicitDefEqProofs [ren_rowP, under_rowP, ren, under]))
      · rintro _ -
        refine mc_runs ctw18b ?_
        simp -implicitDefEqProofs [SM27e, e1]
        exact sub_env (by simp -implicitDefEqProofs)
    · refine mc_runs ctw18b ?_
      simp -implicitDefEqProofs [SM27, ht.len]
      exact Next.mk () trivial (sub_env (by simp -implicitDefEqProofs))
  · rintro _ -
    refine mc_runs ctw18b ?_
    have tt' := RowAt.toT (RowAt.right (R := R16 tt tf) (RowAt.head' eInt 3 1 (mxUp h.1 l l.length)) (by simp [R16]))
    simp -implicitDefEqProofs [SM27, tt']

/-! The law. -/
noncomputable def gMx : List T → Option T := g2 tH (tSl eFS) fun h l => open Classical in if l.length ≤ 100000 ∧ AllOK h l then some (treeS eInt (mxUp h.1 l l.length)) else none
theorem gMx_ok {F : Nat} (hc : ∀ {tt tf tl : T} {h : List Typ × List Ft} {l : List FSv}, IsS eTyp tt h.1 → IsS eFt tf h.2 → IsS eFS tl l → l.length ≤ 100000 → AllOK h l → CallT Try.prog G F [.ag [tt, tf], tl] (· = treeS eInt (mxUp h.1 l l.length))) : GOK Try.prog G F gMx := g2_ok fun a b h l r ha hb hr => by
  obtain ⟨u, v, rfl, hu, hv⟩ := ha
  split at hr
  · rename_i hq; injection hr with hr; subst hr; exact hc hu hv hb hq.1 hq.2
  · cases hr
theorem gMx_eq {u v tl : T} {h : List Typ × List Ft} {l : List FSv} (hu : IsS eTyp u h.1) (hv : IsS eFt v h.2) (ht : IsS eFS tl l) (hl : l.length ≤ 100000) (ha : AllOK h l) : gMx [.ag [u, v], tl] = some (treeS eInt (mxUp h.1 l l.length)) :=
  (g2_eq (τ := tH) (σ := tSl eFS) ⟨u, v, rfl, hu, hv⟩ ht).trans (if_pos ⟨hl, ha⟩)
noncomputable def tw18c : Tbl := [(15, gHier), (16, gFits), (17, gEx), (26, gMx), (27, gMx), (20, gSI)]
theorem ctw18c : Ctx Try.prog G (orc tw18c) := (TblOK.cons gHier_ok (.cons gFits_ok (.cons gEx_ok (.cons (gMx_ok smax_call) (.cons (gMx_ok rmax_call) (.cons gSI_ok .nil)))))).ctx mixed
theorem maximal_law {t tl : T} {d : List TD} {l : List FSv} (ht : IsS eTD t d) (hd : d.length ≤ 12 → DOK d) (htl : IsS eFS tl l) : CallT Try.prog G 5 [t, tl] (· = .v (.bool true)) := by
  have gh := gHier_eq ht hd
  obtain ⟨h, hh⟩ : ∃ h, h = hOf d := ⟨_, rfl⟩
  obtain ⟨u, hu'⟩ : ∃ u, u = treeS eTyp h.1 := ⟨_, rfl⟩
  obtain ⟨v, hv'⟩ : ∃ v, v = treeS eFt h.2 := ⟨_, rfl⟩
  have hu : IsS eTyp u h.1 := hu' ▸ IsS.tree _ _
  have hv : IsS eFt v h.2 := hv' ▸ IsS.tree _ _
  have hTd : hT d = .ag [u, v] := by unfold hT; rw [← hh, hu', hv']
  rw [hTd] at gh
  have c1 : cellsP (.t (.ag [u, v])) = some [.t u, .t v] := rfl
  have a1 : agOf [.t u, .t v] = .t (.ag [u, v]) := rfl
  refine k_w09_SubsumeMaximal.call rfl ?_
  unfold M_w09_SubsumeMaximal
  refine mc_seq_runs ctw18c ?_
  simp -implicitDefEqProofs
  refine mc_seq_runs ctw18c ?_
  simp -implicitDefEqProofs [tw18c, gh, storeM, c1, splice]
  by_cases h6 : 6 < l.length
  · have h6' : (6 : Int) < (l.length : Int) := by omega
    refine mc_seq_runs ctw18c ?_
    simp -implicitDefEqProofs [htl.len, h6, h6', tw18c, gEx_eq]
  · have h6' : ¬ (6 : Int) < (l.length : Int) := by omega
    have gf := gFits_eq hu hv htl (by omega)
    cases hf : fitsB h.1.length h.2.length l with
    | false =>
      rw [hf] at gf
      refine mc_seq_runs ctw18c ?_
      simp -implicitDefEqProofs [htl.len, h6, h6', loadM, a1, tw18c, gf, gEx_eq]
    | true =>
      rw [hf] at gf
      have hall : AllOK h l := ⟨by rw [hh]; exact hOf_ok hd, fits_true hf⟩
      have gm := gMx_eq hu hv htl (by omega) hall
      have hml := mxUp_len h.1 l l.length
      have gs := gSI_eq2 (l := mxUp h.1 l l.length) (by omega)
      refine mc_seq_runs ctw18c ?_
      simp -implicitDefEqProofs [htl.len, h6, h6', loadM, a1, tw18c, gf]
      refine mc_runs ctw18c ?_
      simp -implicitDefEqProofs [loadM, a1, tw18c, gm, gs, gEx_eq]
end Go.Proofs.Ytbiadmfmjnoecaa

namespace Go.Proofs.Ytbiadmfmjnoecaa
set_option linter.unusedSimpArgs false
set_option linter.unusedVariables false
open Go Go.Abs Go.ChangeShapes Go.WideShapes Go.ChangeAt Go.RowKit
theorem read_fss {H : Type} {enc : TypeId × Value → H} {W : World} {spare : Nat → Bool} {held : Bool} {v : Value} {d : DataW H} {p : List MemPlace} (h : DataW.Trod enc Try.prog W 0 spare held 42 v d p) {a : Option Addr} {len cap' : Nat} (hv : v = .slice a len cap') :
    ∃ x l, IsS eFS x l ∧ RepT (Old W) W x v := by
  obtain ⟨fuel, hf⟩ := h
  subst hv
  obtain ⟨ts, hr, x, l, e, hx, _, _⟩ := rd_slice (P := Try.prog) Try.underlying42 (by kernel_rfl) rd_fs fuel _ d p hf
  refine ⟨x, l, hx, ?_⟩
  have := hr.1
  rw [e] at this
  simp only [Value.cells, RepL] at this
  obtain ⟨z, zs, hz, h3, _⟩ := this
  simp at hz
  rw [hz.1]
  exact h3
end Go.Proofs.Ytbiadmfmjnoecaa

namespace Go.Proofs.Ytbiadmfmjnoecaa.subsumeMaximal
set_option linter.unusedSimpArgs false
set_option linter.unusedVariables false
open Go Go.Abs Go.ChangeShapes Go.WideShapes Go.ChangeAt Go.RowKit

theorem own : ownKnob Try.prog.godebug = none := by kernel_rfl
theorem laidOut : laidOutB Try.prog = true := by kernel_rfl

set_option maxRecDepth 100000 in
theorem contract (H : Type) (enc : TypeId × Value → H) (W : World) (base : Nat) (args : Array Value) (ds gs : List (DataW H)) (before : List MemPlace)
    (hval : ∀ (j : Nat) t v, Try.f5.params[j]? = some t → args[j]? = some v → Value.okWide Try.prog W .any base t v)
    (hW : DataW.Whole enc Try.prog Try.f5.params.toList Rows.subsumeMaximalSpec.vars false W args.toList ds gs before) (hk : Rows.uptoSmall H (ds ++ gs) = true) :
    Calls Try.prog 5 args W fun e W' => ∃ v, e = .returned v ∧ Rows.subsumeMaximalSpec.post enc Try.prog Try.f5 false true false false W args v W' := by
  have hW' := hW
  obtain ⟨p, q, hA0, hV, rfl, hfz, hnd⟩ := hW
  have hA : DataW.TrodAll enc Try.prog W 0 (fun _ => true) true Try.f5.params.toList args.toList ds p := hA0
  rw [Try.params5] at hA hval
  obtain ⟨v0, vs0, d0, ds0, p0, q0, hargs, rfl, rfl, h0, r0⟩ := trodAll_cons hA
  obtain ⟨v1, vs1, d1, ds1, p1, q1, rfl, rfl, rfl, h1, r1⟩ := trodAll_cons r0
  obtain ⟨rfl, rfl, rfl⟩ := trodAll_nil r1
  obtain rfl : args = #[v0, v1] := by cases args; simp_all
  obtain ⟨rfl, rfl⟩ := trodVars_none hV
  obtain ⟨a0, len0, cap0, e0⟩ := okWide_slice Try.underlying22 (hval 0 22 v0 (by simp) (by simp))
  obtain ⟨a1, len1, cap1, e1⟩ := okWide_slice Try.underlying42 (hval 1 42 v1 (by simp) (by simp))
  have lt0 : ∀ x ∈ p0, x.block < W.heap.size := by obtain ⟨m, hm⟩ := h0; exact DataW.trod_lt m _ _ _ hm
  have lt1 : ∀ x ∈ p1, x.block < W.heap.size := by obtain ⟨m, hm⟩ := h1; exact DataW.trod_lt m _ _ _ hm
  have hb : Rows.uptoBulk d0 ≤ 1048576 := by
    have : Rows.uptoBulkAll ([d0, d1] ++ []) ≤ 1048576 := of_decide_eq_true hk
    simp only [List.cons_append, List.nil_append, Rows.uptoBulkAll] at this
    omega
  obtain ⟨x0, l0, i0, k0, t0⟩ := read_decls h0 e0 hb
  obtain ⟨x1, l1, i1, t1⟩ := read_fss h1 e1
  clear hA0
  refine ((maximal_law i0 k0 i1).true (fun g cs hg => by cases hg) (us := #[v0, v1]) (by simp only [RepL]; exact ⟨_, _, rfl, t0, _, _, rfl, t1, rfl⟩)).mono fun e W' ⟨he, bel⟩ => ?_
  subst he
  exact ⟨_, rfl, _, _, _, [], _, [], hW', trodAll_mk1 (shut_bool Try.underlying4 _), (trodAll_cons_mk (Below.trod laidOut (by kernel_rfl) (of_decide_eq_true (by kernel_rfl)) h0 bel lt0) (trodAll_cons_mk (Below.trod laidOut (by kernel_rfl) (of_decide_eq_true (by kernel_rfl)) h1 bel lt1) trodAll_mk0)), rfl, bel.frame _, fun h => by cases h⟩

set_option maxRecDepth 100000 in
theorem lifted (os : Os) (started : os.Started) (H : Type) (enc : TypeId × Value → H) (F : Stop.Interp) :
    ReturnsInHanded {} Try.checked os 5 .any ((Rows.OpenSpec.upto Rows.subsumeMaximalSpec).pre6 enc Try.prog Try.f5 Rows.subsumeMaximalUptoRow.domain false) (((Rows.OpenSpec.upto Rows.subsumeMaximalSpec).at F).post enc Try.prog Try.f5 false true false false) := by
  refine returnsInHanded_of_cond (C := Try.checked) (s := Rows.OpenSpec.upto Rows.subsumeMaximalSpec) (k := Rows.uptoSmall) rfl own started (by kernel_rfl) Try.func5
    (OpenSpec.witness (enc := enc) (C := Try.checked) (s := Rows.OpenSpec.upto Rows.subsumeMaximalSpec) (k := Rows.uptoSmall) rfl false ⟨#[], #[.slice none 0 0, .slice none 0 0], []⟩ 8 (by kernel_rfl) (by kernel_rfl) (by kernel_rfl)
      (x := ([.nil, .nil], [], [])) (by kernel_rfl) rfl (by kernel_rfl)) ?_
  intro W base args ds gs before hval hW _ hk _
  exact contract H enc W base args ds gs before hval hW hk

theorem over : Rows.subsumeMaximalUptoRow.holds Try.pinned (Rows.OpenSpec.upto Rows.subsumeMaximalSpec) :=
  OpenClaim.holds_of_cond 5 Try.f5 rfl rfl rfl rfl rfl rfl rfl ⟨rfl, rfl, rfl, rfl, rfl⟩ rfl rfl rfl rfl rfl (by kernel_rfl) Try.func5 (by kernel_rfl)
    (of_decide_eq_true (by kernel_rfl)) (by unfold Func.isWrapper; first | (rw [if_pos (by decide +kernel)]; kernel_rfl) | (rw [if_neg (by decide +kernel)]; exact ⟨rfl, rfl⟩))
    (fun os started H enc _ F => lifted os started H enc F)

theorem proved : Rows.SubsumeMaximalUptoSaid :=
  over
end Go.Proofs.Ytbiadmfmjnoecaa.subsumeMaximal
