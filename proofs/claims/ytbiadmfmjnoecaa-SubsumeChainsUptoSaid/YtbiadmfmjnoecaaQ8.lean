/-
  A hierarchy as a tree, and the order of its types.
  Freezing one row of two.
  The values that each type allows for each feature.
-/
import Derived.Test.YtbiadmfmjnoecaaQ7
namespace Go.Proofs.Ytbiadmfmjnoecaa
set_option linter.unusedSimpArgs false
set_option linter.unusedVariables false
open Go Go.Abs
structure Typ where
 name : Str
 code : List W
 sups : T
 vals : T
def eTyp : Enc Typ := ⟨4, fun x => [sv x.name, encB x.code, x.sups, x.vals], fun _ => rfl, by omega, fun a b h => by
 obtain ⟨a1, a2, a3, a4⟩ := a
 obtain ⟨b1, b2, b3, b4⟩ := b
 injection h with h1 h2
 injection h2 with h2 h3
 injection h3 with h3 h4
 injection h4 with h4 _
 have e := decB_encB a2
 simp only at h2
 rw [h2, decB_encB] at e
 injection e with e
 injection h1 with h1
 injection h1 with h1
 have h1 : a1 = b1 := h1
 have h3 : a3 = b3 := h3
 have h4 : a4 = b4 := h4
 simp [h1, e, h3, h4]⟩
theorem ia_Typ {t : T} {l : List Typ} (h : IsS eTyp t l) {i : Nat} {x : Typ} (hx : l[i]? = some x) : iaddrM 4 (.t t) (.t (iv (i : Int))) = some (.t (.pt (sv x.name :: encB x.code :: x.sups :: x.vals :: rest eTyp l i))) := h.iaddr hx .i64
noncomputable def tb28 : Tbl := [(81, gB2 fSub)]
theorem ctx28 : Ctx Try.prog G (orc tb28) := (TblOK.cons (gB2_ok rsub_call) .nil).ctx mixed
theorem subs6_call {t f : T} {l : List Typ} (ht : IsS eTyp t l) {i j : Nat} {x y : Typ} (hx : l[i]? = some x) (hy : l[j]? = some y) (hxl : x.code.length ≤ 1000) (hyl : y.code.length ≤ 1000) :
  CallT Try.prog G 55 [.ag [t, f], iv (i : Int), iv (j : Int)] (· = bv (subL y.code x.code)) := by
 refine k_r06_Subsumes.runs ctx28 rfl ?_
 have i1 := ia_Typ ht hx
 have i2 := ia_Typ ht hy
 have gs : gB2 fSub [encB y.code, encB x.code] = some (bv (subL y.code x.code)) := gB2_eq (decB_encB _) (decB_encB _) hyl hxl
 have cp : cellsP (.t (.ag [t, f])) = some [.t t, .t f] := rfl
 simp -implicitDefEqProofs [M_r06_Subsumes, cp, i1, i2, loadM, tb28, gs]
theorem frz_other {α : Type} {e : Enc α} {ty : Nat} {H : Heap} {b c : Nat} {l : List α} (h : RowAt e ty H b l) (hc : b ≠ c) : frzP H [c] (rowP e b l) = rowP e b l := by
 unfold frzP
 rw [h.toT]
 cases l with
 | nil => rfl
 | cons x r => simp [lentS, hc]
theorem RowAt.frz {α : Type} {e : Enc α} {ty : Nat} {H : Heap} {b c : Nat} {l : List α} (h : RowAt e ty H b l) (hc : b ≠ c) : RowAt e ty ((remAll H [c]).map fun q => (q.1, frzRow H [c] q.2)) b l := by
 refine h.imp id fun h => ?_
 have h1 : Abs.look (remAll H [c]) b = some (rowOf e ty l) := by
  show Abs.look (rem H c) b = _
  rw [look_rem, if_neg hc, h]
 rw [look_map, h1]
 simp [rowOf, frzRow, frz_t]
structure Ap where
 feat : Int
 val : Int
def eAp : Enc Ap := ⟨2, fun x => [iv x.feat, iv x.val], fun _ => rfl, by omega, fun a b h => by
 obtain ⟨a1, a2⟩ := a
 obtain ⟨b1, b2⟩ := b
 simp at h
 simp [h]⟩
def eTr : Enc T := ⟨1, fun t => [t], fun _ => rfl, by omega, fun a b h => by injection h⟩
noncomputable def mkAp (d : List TD) (i k : Nat) (s : Str) : Ap := ⟨k, coFind (codesL d) (normL (inhUp d (codesL d) i s d.length).2)⟩
noncomputable def apUp (d : List TD) (i : Nat) : Nat → List Ap
 | 0 => []
 | k + 1 => match (feats d)[k]? with
  | some s => if (inhUp d (codesL d) i s d.length).1 = true then apUp d i k ++ [mkAp d i k s] else apUp d i k
  | none => apUp d i k
theorem length_apUp (d : List TD) (i : Nat) : ∀ k, (apUp d i k).length ≤ k
 | 0 => Nat.le_refl _
 | k + 1 => by
  have := length_apUp d i k
  simp only [apUp]
  split
  ·split
   ·simp; omega
   ·omega
  ·omega
noncomputable def apT (d : List TD) (i : Nat) : T := treeS eAp (apUp d i (feats d).length)
noncomputable def valUp (d : List TD) : Nat → List T
 | 0 => []
 | i + 1 => valUp d i ++ [apT d i]
theorem length_valUp (d : List TD) : ∀ i, (valUp d i).length = i
 | 0 => rfl
 | i + 1 => by simp [valUp, length_valUp d i]
noncomputable def valsT (d : List TD) : T := if check5E d ≠ 0 then .tu [nilS, iv (check5E d)] else .tu [treeS eTr (valUp d (codesL d).length), iv 0]
noncomputable def gFind4 : List T → Option T := g2 (tSl eCo) tB fun l b => open Classical in if l.length ≤ cap ∧ (∀ x ∈ l, x.code.length ≤ 1000) ∧ b.length ≤ 1000 then some (iv (coFind l (normL b))) else none
theorem gFind4_ok : GOK Try.prog G 100 gFind4 := g2_ok fun a b x y r ha hb hr => by
 obtain rfl : b = encB y := hb
 split at hr
 ·rename_i h; injection hr with hr; subst hr; exact find4_call ha h.1 h.2.1 (decB_encB y) h.2.2
 ·cases hr
theorem gFind4_eq {t : T} {l : List Co} (ht : IsS eCo t l) (hl : l.length ≤ cap) (hs : ∀ x ∈ l, x.code.length ≤ 1000) {b : List W} (hb : b.length ≤ 1000) : gFind4 [t, encB b] = some (iv (coFind l (normL b))) :=
 (g2_eq (τ := tSl eCo) (σ := tB) ht rfl).trans (if_pos ⟨hl, hs, hb⟩)
noncomputable def tb29 : Tbl := [(97, gD fun d => iv (check5E d)), (76, gD codesT), (98, gFeats), (99, gInh), (100, gFind4)]
theorem ctx29 : Ctx Try.prog G (orc tb29) := (TblOK.cons (gD_ok check5_call) (.cons (gD_ok codes_call) (.cons gFeats_ok (.cons gInh_ok (.cons gFind4_ok .nil))))).ctx mixed
noncomputable def S75 (t u v : T) (d : List TD) (i : Nat) : AState := ⟨[(9, .t (iv (i : Int))), (8, rowP eTr 0 (valUp d i)), (7, .t v), (5, .t u), (0, .t t)], rowH eTr 103 0 (valUp d i), 1, 63⟩
noncomputable def S75e (t u v : T) (d : List TD) (i : Nat) : AState := ⟨[(9, .t (iv (i : Int))), (8, rowP eTr 0 (valUp d (i + 1))), (7, .t v), (5, .t u), (0, .t t)], rowH eTr 103 0 (valUp d (i + 1)), 1, 63⟩
noncomputable def S75i (t u v : T) (d : List TD) (i k : Nat) : AState := ⟨[(11, .t (iv (k : Int))), (10, rowP eAp 1 (apUp d i k)), (9, .t (iv (i : Int))), (8, rowP eTr 0 (valUp d i)), (7, .t v), (5, .t u), (0, .t t)], rowH eTr 103 0 (valUp d i) ++ rowH eAp 152 1 (apUp d i k), 2, 63⟩
noncomputable def S75m (t u v : T) (d : List TD) (i : Nat) : AState := ⟨[(10, .t (apT d i)), (9, .t (iv (i : Int))), (8, rowP eTr 0 (valUp d i)), (7, .t v), (5, .t u), (0, .t t)], rowH eTr 103 0 (valUp d i), 1, 63⟩
theorem values_call {t : T} {d : List TD} (ht : IsS eTD t d) (hd : DOK d) : CallT Try.prog G 75 [t] (· = valsT d) := by
 have gK : gD (fun d => iv (check5E d)) [t] = some (iv (check5E d)) := gD_eq ht hd
 have gC : gD codesT [t] = some (codesT d) := gD_eq ht hd
 refine k_r05_Values.call rfl ?_
 unfold M_r05_Values
 refine mc_seq_runs ctx29 ?_
 simp -implicitDefEqProofs
 by_cases hE : check5E d = 0
 ·have hF := fit_of_check hd hE
  have hg := hF.good
  have hll := hF.cod.len
  have hfl := hF.fl
  have hs' : ∀ x ∈ codesL d, x.code.length ≤ 1000 := fun x hx => by have := hF.cod.size x hx; omega
  rw [hF.codes] at gC
  rw [hE] at gK
  obtain ⟨u, hu⟩ : ∃ u, u = treeS eCo (codesL d) := ⟨_, rfl⟩
  rw [← hu] at gC
  have hU : IsS eCo u (codesL d) := hu ▸ IsS.tree eCo _
  obtain ⟨v, hv⟩ : ∃ v, v = treeS eStr (feats d) := ⟨_, rfl⟩
  have hV : IsS eStr v (feats d) := hv ▸ IsS.tree eStr _
  have gF := gFeats_eq ht hg
  rw [← hv] at gF
  refine mc_seq_runs ctx29 ?_
  simp -implicitDefEqProofs [tb29, gK]
  refine mc_seq_runs ctx29 ?_
  simp -implicitDefEqProofs [tb29, gC, extractV]
  refine mc_seq_runs ctx29 ?_
  simp -implicitDefEqProofs [tb29, gF]
  refine mc_seq_runs ctx29 ?_
  simp -implicitDefEqProofs
  refine mc_cut (fun _ : Unit => S75 t u v d (codesL d).length) (fun _ => True) (fun _ => rfl) ?_ ?_
  ·refine mc_seq_runs ctx29 ?_
   simp -implicitDefEqProofs
   refine mc_block ?_
   refine mc_for (S75 t u v d) (codesL d).length (fun _ => rfl) ?_ rfl ?_ ?_
   ·exact sub_row1 (k := 0) (RowAt.nil _ _ _ _) (by omega) (by omega) (by simp -implicitDefEqProofs [valUp, rowP, ren, under])
   ·intro i hi
    have e1 : IntKind.i64.wrap ((i : Int) + 1) = ((i + 1 : Nat) : Int) := wrap_nat (by omega) (by omega)
    have hvl := length_valUp d i
    have r0 := RowAt.head' eTr 103 0 (valUp d i)
    have e0 : rowP eAp 1 (apUp d i 0) = .t nilS := rfl
    refine mc_seq_runs ctx29 ?_
    simp -implicitDefEqProofs [S75, hi, hU.len]
    refine mc_cut (fun _ : Unit => S75e t u v d i) (fun _ => True) (fun _ => rfl) ?_ ?_
    ·refine mc_block ?_
     refine mc_seq_runs ctx29 ?_
     simp -implicitDefEqProofs
     refine mc_cut (fun _ : Unit => S75m t u v d i) (fun _ => True) (fun _ => rfl) ?_ ?_
     ·refine mc_seq_runs ctx29 ?_
      simp -implicitDefEqProofs
      refine mc_block ?_
      refine mc_for (S75i t u v d i) (feats d).length (fun _ => rfl) ?_ rfl ?_ ?_
      ·exact sub_row2 (e := eTr) (e' := eAp) (k := 0) (k' := 1) r0 (RowAt.nil _ _ _ _) (by omega) (by omega) (by omega) (by omega) (by omega) (by omega) (by simp -implicitDefEqProofs [e0, ren_rowP, under_rowP, ren, under])
      ·intro k hk
       obtain ⟨s, hs⟩ : ∃ s, (feats d)[k]? = some s := ⟨_, List.getElem?_eq_getElem hk⟩
       have ia := ia_str hV hs
       have gi := gInh_eq ht hg hF.decls hU hF.cod hi s
       have e2 : IntKind.i64.wrap ((k : Int) + 1) = ((k + 1 : Nat) : Int) := wrap_nat (by omega) (by omega)
       have hal := length_apUp d i k
       have hcs := inhUp_size (d := d) hF.cod.size i s d.length
       obtain ⟨H0, hH0⟩ : ∃ H0, H0 = rowH eTr 103 0 (valUp d i) ++ rowH eAp 152 1 (apUp d i k) := ⟨_, rfl⟩
       have a0 : RowAt eTr 103 H0 0 (valUp d i) := by rw [hH0]; exact RowAt.head _ _ _ _ _
       have a1 : RowAt eAp 152 H0 1 (apUp d i k) := by rw [hH0]; exact (RowAt.head' _ _ _ _).left (by omega)
       have lp : ∀ c cs, loadM false 1 H0 (.t (.pt (c :: cs))) = some (.t c) := fun _ _ => rfl
       have us : apUp d i (k + 1) = if (inhUp d (codesL d) i s d.length).1 = true then apUp d i k ++ [mkAp d i k s] else apUp d i k := by simp only [apUp, hs]
       have gf := gFind4_eq hU (by unfold cap; omega) hs' (b := (inhUp d (codesL d) i s d.length).2) (by omega)
       refine mc_runs ctx29 ?_
       cases z : (inhUp d (codesL d) i s d.length).1 with
       | false =>
        rw [z] at gi us
        simp only [Bool.false_eq_true, if_false] at us
        simp -implicitDefEqProofs [S75i, ← hH0, hk, hV.len, ia, lp, tb29, gi, extractV, e2]
        rw [us]
        exact sub_row2 (e := eTr) (e' := eAp) (k := 0) (k' := 1) a0 a1 (by omega) (by omega) (by omega) (by omega) (by omega) (by omega) (by simp -implicitDefEqProofs [ren_rowP, under_rowP, ren, under])
       | true =>
        rw [z] at gi us
        simp only [if_true] at us
        have fl : fillP (fun k => [(0, 1), (1, 1)][k]?) [.t (.v (.int .i64 0)), .t (.v (.int .i64 0))] [(0, .t (iv (k : Int))), (1, .t (iv (mkAp d i k s).val))] = some [.t (iv (k : Int)), .t (iv (mkAp d i k s).val)] := rfl
        have ag : agOf [.t (iv (k : Int)), .t (iv (mkAp d i k s).val)] = .t (.ag [iv (k : Int), iv (mkAp d i k s).val]) := rfl
        have gf : gFind4 [u, encB (inhUp d (codesL d) i s d.length).2] = some (iv (mkAp d i k s).val) := gf
        have bs : bsliceM 152 2 [.int .i64 0, .int .i64 0] 1 [(0, .t (.ag [iv (k : Int), iv (mkAp d i k s).val]))] 2 = some (.row 2 0 1 2, .cells 152 ((eAp.enc (mkAp d i k s)).map .t)) := rfl
        obtain ⟨b2, H2, n2, ap2, r2, ne2, le2, lk2, ge2⟩ := app_some (e := eAp) (ty := 152) (by' := 16) (nx := 3) (m := [mkAp d i k s]) (a1.cons (k := 2) (r := .cells 152 ((eAp.enc (mkAp d i k s)).map .t)) (by omega)) (src_one (b := 2) (ty := 152) (mkAp d i k s) (by simp)) (by simp; omega) (by simp; omega)
        have a0' : RowAt eTr 103 H2 0 (valUp d i) := a0.imp id fun h => by
         rw [lk2 0 (by omega) (by omega), look_cons, if_neg (by omega)]
         exact h
        have hz : eAp.z = 2 := rfl
        rw [hz, ← us] at ap2
        rw [← us] at r2
        simp -implicitDefEqProofs [S75i, ← hH0, hk, hV.len, ia, lp, tb29, gi, extractV, gf, fl, ag, bs, ap2, e2]
        exact sub_row2 (e := eTr) (e' := eAp) (k := 0) (k' := b2) a0' r2 (by omega) (by omega) (by omega) (by omega) (by omega) (by omega) (by simp -implicitDefEqProofs [ren_rowP, under_rowP, ren, under])
      ·refine mc_runs ctx29 ?_
       obtain ⟨H0, hH0⟩ : ∃ H0, H0 = rowH eTr 103 0 (valUp d i) ++ rowH eAp 152 1 (apUp d i (feats d).length) := ⟨_, rfl⟩
       have a0 : RowAt eTr 103 H0 0 (valUp d i) := by rw [hH0]; exact RowAt.head _ _ _ _ _
       have a1 : RowAt eAp 152 H0 1 (apUp d i (feats d).length) := by rw [hH0]; exact (RowAt.head' _ _ _ _).left (by omega)
       simp -implicitDefEqProofs [S75i, ← hH0, hV.len]
       refine Next.mk () trivial ((sub_frz [1]).trans ?_)
       unfold S75m AState.frz
       refine sub_row1 (k := 0) (RowAt.frz a0 (c := 1) (by omega)) (by omega) (by omega) ?_
       simp -implicitDefEqProofs [frz_row a1, frz_other a0, frz_t, ren_rowP, under_rowP, ren, under, apT]
     ·rintro _ -
      refine mc_runs ctx29 ?_
      have bs : bsliceM 103 1 [.slice none 0 0] 1 [(0, .t (apT d i))] 1 = some (.row 1 0 1 1, .cells 103 ((eTr.enc (apT d i)).map .t)) := by
       unfold apT
       cases apUp d i (feats d).length <;> rfl
      obtain ⟨b2, H2, n2, ap2, r2, ne2, le2, lk2, ge2⟩ := app_some (e := eTr) (ty := 103) (by' := 24) (nx := 2) (m := [apT d i]) (r0.cons (k := 1) (r := .cells 103 ((eTr.enc (apT d i)).map .t)) (by omega)) (src_one (b := 1) (ty := 103) (apT d i) (by simp)) (by simp; omega) (by simp; omega)
      have hz : eTr.z = 1 := rfl
      rw [hz] at ap2
      simp -implicitDefEqProofs [S75m, bs, ap2]
      exact Next.mk () trivial (sub_row1 (k := b2) r2 (by omega) (by omega) (by simp -implicitDefEqProofs [ren_rowP, under_rowP, ren, under, valUp]))
    ·rintro _ -
     refine mc_runs ctx29 ?_
     simp -implicitDefEqProofs [S75e, e1]
     exact sub_row1 (k := 0) (RowAt.head' _ _ _ _) (by omega) (by omega) (by simp -implicitDefEqProofs [ren_rowP, under_rowP, ren, under])
   ·refine mc_runs ctx29 ?_
    simp -implicitDefEqProofs [S75, hU.len]
    exact Next.mk () trivial (sub_row1 (k := 0) (RowAt.head' _ _ _ _) (by omega) (by omega) (by simp -implicitDefEqProofs [ren_rowP, under_rowP, ren, under]))
  ·rintro _ -
   refine mc_runs ctx29 ?_
   have hres : valsT d = .tu [treeS eTr (valUp d (codesL d).length), iv 0] := by unfold valsT; rw [if_neg (by rw [hE]; simp)]
   have t2 := toT_tu2 (RowAt.head' eTr 103 0 (valUp d (codesL d).length)) (iv 0)
   simp -implicitDefEqProofs [S75, -oneOf, t2, hres]
 ·have hE' := neq_zero hE
  have hres : valsT d = .tu [nilS, iv (check5E d)] := by unfold valsT; rw [if_pos hE]
  refine mc_runs ctx29 ?_
  simp -implicitDefEqProofs [tb29, gK, hE, hE', hres]
end Go.Proofs.Ytbiadmfmjnoecaa
