/-
  What a type inherits for a feature.
  The check of declarations with features: what it returns.
  The features and the numbers of the types that introduce them.
  The numbers of the supertypes right above a code.
-/
import Derived.Test.YtbiadmfmjnoecaaQ6
namespace Go.Proofs.Ytbiadmfmjnoecaa
set_option linter.unusedSimpArgs false
set_option linter.unusedVariables false
open Go Go.Abs
theorem decl_vals {d : List TD} (h : declsE d = 0) {x : TD} (hx : x ∈ d) {f : FD} (hf : f ∈ x.fs) : ∃ y ∈ d, y.name = f.value := by
 obtain ⟨i, hi, e⟩ := List.getElem_of_mem hx
 obtain ⟨k, hk, e'⟩ := List.getElem_of_mem hf
 have h1 := firstE_zero ((firstE_zero h).2 i x hi (by rw [List.getElem?_eq_getElem hi, e]))
 have h2 := h1.2 k f hk (by rw [List.getElem?_eq_getElem hk, e'])
 unfold featE at h2
 split at h2
 ·cases h2
 ·split at h2
  ·cases h2
  ·split at h2
   ·cases h2
   ·rename_i h3
    refine mem_names.1 ?_
    have h4 : hasS (names d) f.value = true := by simpa using h3
    unfold hasS at h4
    simpa using h4
structure Cod (d : List TD) (l : List Co) : Prop where
 ne : 0 < l.length
 len : l.length ≤ 256
 size : ∀ x ∈ l, x.code.length ≤ 64
 num : ∀ s, (∃ x ∈ d, x.name = s) → ∃ co, numOf l s = ((coIdx l s : Nat) : Int) ∧ l[coIdx l s]? = some co ∧ co.name = s
def coAt (l : List Co) (i : Nat) : List W := (l[i]?.map Co.code).getD []
theorem coAt_eq {l : List Co} {i : Nat} {x : Co} (h : l[i]? = some x) : coAt l i = x.code := by simp [coAt, h]
noncomputable def gNumber : List T → Option T := g2 (tSl eCo) tStr fun l s => if l.length ≤ cap then some (iv (numOf l s)) else none
theorem gNumber_ok : GOK Try.prog G 109 gNumber := g2_ok fun a b x y r ha hb hr => by
 obtain rfl : b = sv y := hb
 split at hr
 ·rename_i h; injection hr with hr; subst hr; exact number_call ha y h
 ·cases hr
theorem gNumber_eq {t : T} {l : List Co} (ht : IsS eCo t l) (s : Str) (hl : l.length ≤ cap) : gNumber [t, sv s] = some (iv (numOf l s)) := by
 unfold gNumber
 rw [g2_eq (τ := tSl eCo) (σ := tStr) ht rfl, if_pos hl]
noncomputable def gSubs4 : List T → Option T := g3 (tSl eCo) tInt tInt fun l i j => open Classical in if 0 ≤ i ∧ 0 ≤ j ∧ i.toNat < l.length ∧ j.toNat < l.length ∧ ∀ x ∈ l, x.code.length ≤ 1000 then some (bv (subL (coAt l j.toNat) (coAt l i.toNat))) else none
theorem gSubs4_ok : GOK Try.prog G 107 gSubs4 := g3_ok fun a b c l i j r ha hb hc hr => by
 obtain rfl : b = iv i := hb
 obtain rfl : c = iv j := hc
 split at hr
 ·rename_i h
  obtain ⟨h1, h2, h3, h4, h5⟩ := h
  injection hr with hr; subst hr
  obtain ⟨i, rfl⟩ := Int.eq_ofNat_of_zero_le h1
  obtain ⟨j, rfl⟩ := Int.eq_ofNat_of_zero_le h2
  simp only [Int.toNat_natCast] at h3 h4 ⊢
  have e1 := List.getElem?_eq_getElem h3
  have e2 := List.getElem?_eq_getElem h4
  rw [coAt_eq e1, coAt_eq e2]
  exact subs4_call ha e1 e2 (h5 _ (List.getElem_mem _)) (h5 _ (List.getElem_mem _))
 ·cases hr
theorem gSubs4_eq {t : T} {l : List Co} (ht : IsS eCo t l) {i j : Nat} (hi : i < l.length) (hj : j < l.length) (hs : ∀ x ∈ l, x.code.length ≤ 1000) : gSubs4 [t, iv (i : Int), iv (j : Int)] = some (bv (subL (coAt l j) (coAt l i))) := by
 unfold gSubs4
 rw [g3_eq (τ := tSl eCo) (σ := tInt) (ρ := tInt) ht rfl rfl, if_pos ⟨by omega, by omega, by simpa using hi, by simpa using hj, hs⟩]
 rfl
noncomputable def inhUp (d : List TD) (l : List Co) (i : Nat) (s : Str) : Nat → Bool × List W
 | 0 => (false, coAt l 0)
 | j + 1 => match d[j]? with
  | some x => if (hasF x s && subL (coAt l i) (coAt l (coIdx l x.name))) = true then (true, andN (inhUp d l i s j).2 (coAt l (coIdx l (valOf x s)))) else inhUp d l i s j
  | none => inhUp d l i s j
theorem coAt_size {l : List Co} (h : ∀ x ∈ l, x.code.length ≤ 64) (i : Nat) : (coAt l i).length ≤ 64 := by
 unfold coAt
 cases e : l[i]? with
 | none => simp
 | some x => simpa using h x (List.mem_of_getElem? e)
theorem inhUp_size {d : List TD} {l : List Co} (h : ∀ x ∈ l, x.code.length ≤ 64) (i : Nat) (s : Str) : ∀ j, (inhUp d l i s j).2.length ≤ 64
 | 0 => coAt_size h 0
 | j + 1 => by
  have ih := inhUp_size (d := d) h i s j
  simp only [inhUp]
  split
  ·split
   ·exact Nat.le_trans (len_andN _ _) ih
   ·exact ih
  ·exact ih
noncomputable def inhT (d : List TD) (l : List Co) (i : Nat) (s : Str) : T := .tu [encB (inhUp d l i s d.length).2, bv (inhUp d l i s d.length).1]
noncomputable def tb24 : Tbl := [(121, gVal), (109, gNumber), (107, gSubs4), (89, gB2 fAnd)]
theorem ctx24 : Ctx Try.prog G (orc tb24) := (TblOK.cons gVal_ok (.cons gNumber_ok (.cons gSubs4_ok (.cons (gB2_ok fAnd_call) .nil)))).ctx mixed
noncomputable def S99 (t u : T) (d : List TD) (l : List Co) (i : Nat) (s : Str) (j : Nat) : AState :=
 ⟨[(12, .t (iv (j : Int))), (11, .t (encB (inhUp d l i s j).2)), (10, .t (bv (inhUp d l i s j).1)), (3, .t (sv s)), (2, .t (iv (i : Int))), (1, .t u), (0, .t t)], [], 0, 60⟩
theorem inherited_call {t u : T} {d : List TD} {l : List Co} (ht : IsS eTD t d) (hg : Good d) (hv : declsE d = 0) (hu : IsS eCo u l) (hc : Cod d l) {i : Nat} (hi : i < l.length) (s : Str) :
  CallT Try.prog G 99 [t, u, iv (i : Int), sv s] (· = inhT d l i s) := by
 have hdl := hg.len
 have hll := hc.len
 have hs' : ∀ x ∈ l, x.code.length ≤ 1000 := fun x hx => by have := hc.size x hx; omega
 obtain ⟨c0, hc0⟩ : ∃ c, l[0]? = some c := ⟨_, List.getElem?_eq_getElem hc.ne⟩
 have i0 := ia_Co hu hc0
 simp only [Int.natCast_zero] at i0
 have hq0 : inhUp d l i s 0 = (false, c0.code) := by simp [inhUp, coAt_eq hc0]
 refine k_r05_inherited.call rfl ?_
 unfold M_r05_inherited
 refine mc_seq_runs ctx24 ?_
 simp -implicitDefEqProofs
 refine mc_seq_runs ctx24 ?_
 simp -implicitDefEqProofs
 refine mc_seq_runs ctx24 ?_
 simp -implicitDefEqProofs [i0, loadM]
 refine mc_cut (fun _ : Unit => S99 t u d l i s d.length) (fun _ => True) (fun _ => rfl) ?_ ?_
 ·refine mc_seq_runs ctx24 ?_
  simp -implicitDefEqProofs
  refine mc_block ?_
  refine mc_for (S99 t u d l i s) d.length (fun _ => rfl) ?_ rfl ?_ ?_
  ·refine sub_forget rfl rfl ?_ ?_ <;> simp -implicitDefEqProofs [S99, hq0]
  ·intro j hj
   refine mc_runs ctx24 ?_
   obtain ⟨x, hx⟩ : ∃ x, d[j]? = some x := ⟨_, List.getElem?_eq_getElem hj⟩
   have hm := List.mem_of_getElem? hx
   have ok := hg.ok.2 x hm
   have ia := ia_TD ht hx
   have gv := gVal_eq ok s
   have e1 : IntKind.i64.wrap ((j : Int) + 1) = ((j + 1 : Nat) : Int) := wrap_nat (by omega) (by omega)
   obtain ⟨co, n1, n2, -⟩ := hc.num x.name ⟨x, hm, rfl⟩
   have gn := gNumber_eq hu x.name (by unfold cap; omega)
   rw [n1] at gn
   have gs := gSubs4_eq hu (List.getElem?_eq_some_iff.1 n2).1 hi hs'
   have us : inhUp d l i s (j + 1) = if (hasF x s && subL (coAt l i) (coAt l (coIdx l x.name))) = true then (true, andN (inhUp d l i s j).2 (coAt l (coIdx l (valOf x s)))) else inhUp d l i s j := by simp only [inhUp, hx]
   cases z : hasF x s with
   | false =>
    rw [z] at gv us
    simp only [Bool.false_and, Bool.false_eq_true, if_false] at us
    simp -implicitDefEqProofs [S99, hj, ht.len, ia, loadM, tb24, gv, extractV, e1]
    refine sub_forget rfl rfl ?_ ?_ <;> simp -implicitDefEqProofs [us]
   | true =>
    rw [z] at gv us
    simp only [Bool.true_and] at us
    cases z2 : subL (coAt l i) (coAt l (coIdx l x.name)) with
    | false =>
     rw [z2] at gs us
     simp only [Bool.false_eq_true, if_false] at us
     simp -implicitDefEqProofs [S99, hj, ht.len, ia, loadM, tb24, gv, extractV, e1, gn, gs]
     refine sub_forget rfl rfl ?_ ?_ <;> simp -implicitDefEqProofs [us]
    | true =>
     rw [z2] at gs us
     simp only [if_true] at us
     obtain ⟨f, hf1, hf2⟩ : ∃ f ∈ x.fs, f.value = valOf x s := by
      have : fIdx x s < x.fs.length := by simpa [hasF] using z
      refine ⟨_, List.getElem_mem this, ?_⟩
      unfold valOf
      rw [List.getElem?_eq_getElem this]
      rfl
     obtain ⟨y, hy, hy'⟩ := decl_vals hv hm hf1
     obtain ⟨cv, m1, m2, -⟩ := hc.num (valOf x s) ⟨y, hy, hy'.trans hf2⟩
     have gn2 := gNumber_eq hu (valOf x s) (by unfold cap; omega)
     rw [m1] at gn2
     have ib := ia_Co hu m2
     have ga : gB2 fAnd [encB (inhUp d l i s j).2, encB cv.code] = some (encB (andN (inhUp d l i s j).2 (coAt l (coIdx l (valOf x s))))) := by
      rw [coAt_eq m2]
      exact gB2_eq (decB_encB _) (decB_encB _) (by have := inhUp_size (d := d) hc.size i s j; omega) (hs' _ (List.mem_of_getElem? m2))
     simp -implicitDefEqProofs [S99, hj, ht.len, ia, loadM, tb24, gv, extractV, e1, gn, gs, gn2, ib, ga]
     refine sub_forget rfl rfl ?_ ?_ <;> simp -implicitDefEqProofs [us]
  ·refine mc_runs ctx24 ?_
   simp -implicitDefEqProofs [S99, ht.len]
   exact Next.mk () trivial (sub_forget rfl rfl (by simp -implicitDefEqProofs) (by simp -implicitDefEqProofs))
 ·rintro _ -
  refine mc_runs ctx24 ?_
  simp -implicitDefEqProofs [S99, inhT]
theorem cod_codesL {d : List TD} (hg : Good d) (hf : ¬ 256 < (family (codesOf d)).length) : Cod d (codesL d) := by
 have num : ∀ s, (∃ x ∈ d, x.name = s) → ∃ co, numOf (codesL d) s = ((coIdx (codesL d) s : Nat) : Int) ∧ (codesL d)[coIdx (codesL d) s]? = some co ∧ co.name = s := fun s hs => by
  obtain ⟨i, co, h1, h2, h3⟩ := num_found hg hs
  have : coIdx (codesL d) s = i := by
   unfold numOf at h1
   split at h1 <;> omega
  rw [this]
  exact ⟨co, h1, h2, h3⟩
 refine ⟨?_, by rw [length_codesL]; omega, fun x hx => codesL_size hx, num⟩
 obtain ⟨co, -, h2, -⟩ := num (d[0]'hg.ne).name ⟨_, List.getElem_mem hg.ne, rfl⟩
 have := (List.getElem?_eq_some_iff.1 h2).1
 omega
noncomputable def codesE (d : List TD) : Int := if checkE d ≠ 0 then checkE d else if 256 < (family (codesOf d)).length then 7 else 0
theorem codesT_bad {d : List TD} (h : codesE d ≠ 0) : codesT d = .tu [nilS, iv (codesE d)] := by
 unfold codesT codesE at *
 split
 ·rfl
 ·rename_i h1
  rw [if_neg h1] at h
  split
  ·rfl
  ·rename_i h2; rw [if_neg h2] at h; exact (h rfl).elim
theorem codesE_zero {d : List TD} (hd : DOK d) (h : codesE d = 0) : Good d ∧ Cod d (codesL d) ∧ codesT d = .tu [treeS eCo (codesL d), iv 0] := by
 unfold codesE at h
 have h1 : checkE d = 0 := Classical.byContradiction fun h1 => by rw [if_pos h1] at h; exact h1 h
 rw [if_neg (by rw [h1]; simp)] at h
 have h2 : ¬ 256 < (family (codesOf d)).length := fun h2 => by rw [if_pos h2] at h; cases h
 have hg := good_of_check hd h1
 refine ⟨hg, cod_codesL hg h2, ?_⟩
 unfold codesT
 rw [if_neg (by rw [h1]; simp), if_neg h2]
noncomputable def introOK (d : List TD) (s : Str) : Bool := decide ((introL d s).length = 1)
noncomputable def introN (d : List TD) (s : Str) : Str := if introOK d s then (introL d s).getD 0 emptyS else emptyS
theorem introT_eq (d : List TD) (s : Str) : introT d s = .tu [sv (introN d s), bv (introOK d s)] := by
 unfold introT introN introOK
 by_cases h : (introL d s).length = 1
 ·rw [if_pos h, if_pos (by simpa using h), decide_eq_true h]
 ·rw [if_neg h, if_neg (by simpa using h), decide_eq_false h]
noncomputable def gFeats : List T → Option T := g1 (tSl eTD) fun d => open Classical in if Good d then some (treeS eStr (feats d)) else none
theorem gFeats_ok : GOK Try.prog G 98 gFeats := g1_ok fun a x r ha hr => by
 split at hr
 ·rename_i h; injection hr with hr; subst hr; exact feats_call ha h
 ·cases hr
theorem gFeats_eq {t : T} {d : List TD} (ht : IsS eTD t d) (hg : Good d) : gFeats [t] = some (treeS eStr (feats d)) :=
 (g1_eq (τ := tSl eTD) ht).trans (if_pos hg)
noncomputable def gIntro : List T → Option T := g2 (tSl eTD) tStr fun d s => open Classical in if Good d then some (introT d s) else none
theorem gIntro_ok : GOK Try.prog G 108 gIntro := g2_ok fun a b x y r ha hb hr => by
 obtain rfl : b = sv y := hb
 split at hr
 ·rename_i h; injection hr with hr; subst hr; exact intro_call ha h y
 ·cases hr
theorem gIntro_eq {t : T} {d : List TD} (ht : IsS eTD t d) (hg : Good d) (s : Str) : gIntro [t, sv s] = some (.tu [sv (introN d s), bv (introOK d s)]) := by
 rw [← introT_eq]
 exact (g2_eq (τ := tSl eTD) (σ := tStr) ht rfl).trans (if_pos hg)
noncomputable def gInh : List T → Option T := g4 (tSl eTD) (tSl eCo) tInt tStr fun d l i s => open Classical in if Good d ∧ declsE d = 0 ∧ Cod d l ∧ 0 ≤ i ∧ i.toNat < l.length then some (inhT d l i.toNat s) else none
theorem gInh_ok : GOK Try.prog G 99 gInh := g4_ok fun a b c e d l i s r ha hb hc he hr => by
 obtain rfl : c = iv i := hc
 obtain rfl : e = sv s := he
 split at hr
 ·rename_i h
  obtain ⟨h1, h2, h3, h4, h5⟩ := h
  injection hr with hr; subst hr
  obtain ⟨i, rfl⟩ := Int.eq_ofNat_of_zero_le h4
  simp only [Int.toNat_natCast] at h5 ⊢
  exact inherited_call ha h1 h2 hb h3 h5 s
 ·cases hr
theorem gInh_eq {t u : T} {d : List TD} {l : List Co} (ht : IsS eTD t d) (hg : Good d) (hv : declsE d = 0) (hu : IsS eCo u l) (hc : Cod d l) {i : Nat} (hi : i < l.length) (s : Str) :
  gInh [t, u, iv (i : Int), sv s] = some (.tu [encB (inhUp d l i s d.length).2, bv (inhUp d l i s d.length).1]) :=
 (g4_eq (τ := tSl eTD) (σ := tSl eCo) (ρ := tInt) (π := tStr) ht hu rfl rfl).trans (if_pos ⟨hg, hv, hc, by omega, by simpa using hi⟩)
noncomputable def introE (d : List TD) (s : Str) : Int := if introOK d s then 0 else 10
noncomputable def inhE (d : List TD) (l : List Co) (i : Nat) (s : Str) : Int := if (inhUp d l i s d.length).1 = true ∧ (inhUp d l i s d.length).2.length = 0 then 11 else 0
noncomputable def rowE (d : List TD) (i : Nat) (_ : Co) : Int := firstE (fun _ s => inhE d (codesL d) i s) (feats d)
noncomputable def check5E (d : List TD) : Int :=
 if codesE d ≠ 0 then codesE d else if 64 < (feats d).length then 7 else if declsE d ≠ 0 then declsE d
 else if firstE (fun _ s => introE d s) (feats d) ≠ 0 then firstE (fun _ s => introE d s) (feats d) else firstE (rowE d) (codesL d)
noncomputable def tb25 : Tbl := [(76, gD codesT), (98, gFeats), (119, gD fun d => iv (declsE d)), (108, gIntro), (99, gInh)]
theorem ctx25 : Ctx Try.prog G (orc tb25) := (TblOK.cons (gD_ok codes_call) (.cons gFeats_ok (.cons (gD_ok decls_call) (.cons gIntro_ok (.cons gInh_ok .nil))))).ctx mixed
def S97 (t u v : T) (j : Nat) : AState := ⟨[(7, .t (iv (j : Int))), (5, .t v), (3, .t u), (0, .t t)], [], 0, 78⟩
def S97b (t u v : T) (j : Nat) : AState := ⟨[(10, .t (iv (j : Int))), (5, .t v), (3, .t u), (0, .t t)], [], 0, 78⟩
def S97c (t u v : T) (j k : Nat) : AState := ⟨[(11, .t (iv (k : Int))), (10, .t (iv (j : Int))), (5, .t v), (3, .t u), (0, .t t)], [], 0, 78⟩
theorem check5_call {t : T} {d : List TD} (ht : IsS eTD t d) (hd : DOK d) : CallT Try.prog G 97 [t] (· = iv (check5E d)) := by
 have gC : gD codesT [t] = some (codesT d) := gD_eq ht hd
 have gV : gD (fun d => iv (declsE d)) [t] = some (iv (declsE d)) := gD_eq ht hd
 refine k_r05_Check.call rfl ?_
 unfold M_r05_Check
 refine mc_seq_runs ctx25 ?_
 simp -implicitDefEqProofs
 by_cases hE : codesE d = 0
 ·obtain ⟨hg, hc, hT⟩ := codesE_zero hd hE
  rw [hT] at gC
  have hdl := hg.len
  have hll := hc.len
  obtain ⟨u, hu⟩ : ∃ u, u = treeS eCo (codesL d) := ⟨_, rfl⟩
  rw [← hu] at gC
  have hU : IsS eCo u (codesL d) := hu ▸ IsS.tree eCo _
  obtain ⟨v, hv⟩ : ∃ v, v = treeS eStr (feats d) := ⟨_, rfl⟩
  have hV : IsS eStr v (feats d) := hv ▸ IsS.tree eStr _
  have gF := gFeats_eq ht hg
  rw [← hv] at gF
  refine mc_seq_runs ctx25 ?_
  simp -implicitDefEqProofs [tb25, gC, extractV]
  refine mc_seq_runs ctx25 ?_
  simp -implicitDefEqProofs
  refine mc_seq_runs ctx25 ?_
  simp -implicitDefEqProofs [tb25, gF]
  by_cases h64 : 64 < (feats d).length
  ·have h64' : (64 : Int) < ((feats d).length : Int) := by omega
   have hres : check5E d = 7 := by unfold check5E; rw [if_neg (by rw [hE]; simp), if_pos h64]
   refine mc_runs ctx25 ?_
   simp -implicitDefEqProofs [hV.len, h64, h64', hres]
  ·have h64' : ¬ (64 : Int) < ((feats d).length : Int) := by omega
   refine mc_seq_runs ctx25 ?_
   simp -implicitDefEqProofs [hV.len, h64, h64']
   by_cases hD : declsE d = 0
   ·rw [hD] at gV
    refine mc_seq_runs ctx25 ?_
    simp -implicitDefEqProofs [tb25, gV]
    refine mc_cut (fun _ : Unit => S97 t u v (feats d).length) (fun _ => Clear (fun _ s => introE d s) (feats d) (feats d).length) (fun _ => rfl) ?_ ?_
    ·refine mc_seq_runs ctx25 ?_
     simp -implicitDefEqProofs
     refine mc_block ?_
     refine mc_while (S97 t u v) (fun j => (feats d).length - j) (Clear (fun _ s => introE d s) (feats d)) 0 (fun _ => rfl) (Clear.zero _ _) ?_ rfl ?_
     ·refine sub_forget rfl rfl ?_ ?_ <;> simp -implicitDefEqProofs [S97]
     ·intro j hj
      refine mc_runs ctx25 ?_
      by_cases hjl : j < (feats d).length
      ·obtain ⟨s, hs⟩ : ∃ s, (feats d)[j]? = some s := ⟨_, List.getElem?_eq_getElem hjl⟩
       have ia := ia_str hV hs
       have gi := gIntro_eq ht hg s
       have e1 : IntKind.i64.wrap ((j : Int) + 1) = ((j + 1 : Nat) : Int) := wrap_nat (by omega) (by omega)
       cases z : introOK d s with
       | false =>
        rw [z] at gi
        have hz : introE d s = 10 := by unfold introE; rw [if_neg (by rw [z]; simp)]
        have h5 := firstE_at hj hs (by rw [hz]; decide)
        have hres : check5E d = 10 := by
         unfold check5E
         rw [if_neg (by rw [hE]; simp), if_neg h64, if_neg (by rw [hD]; simp), h5, hz]
         rfl
        simp -implicitDefEqProofs [S97, hjl, hV.len, ia, loadM, tb25, gi, extractV, hres]
       | true =>
        rw [z] at gi
        have hz : introE d s = 0 := by unfold introE; rw [if_pos z]
        simp -implicitDefEqProofs [S97, hjl, hV.len, ia, loadM, tb25, gi, extractV, e1]
        exact Next.mk (j + 1) ⟨hj.succ hs hz, by omega⟩ (sub_forget rfl rfl (by simp -implicitDefEqProofs [S97]) (by simp -implicitDefEqProofs [S97]))
      ·have hj' : j = (feats d).length := by have := hj.1; omega
       simp -implicitDefEqProofs [S97, hjl, hV.len]
       exact Next.mk () (hj' ▸ hj) (sub_forget rfl rfl (by simp -implicitDefEqProofs [S97, hj']) (by simp -implicitDefEqProofs [S97]))
    ·rintro _ hI
     have hI0 : firstE (fun _ s => introE d s) (feats d) = 0 := firstE_none hI
     have hrest : check5E d = firstE (rowE d) (codesL d) := by
      unfold check5E
      rw [if_neg (by rw [hE]; simp), if_neg h64, if_neg (by rw [hD]; simp), hI0]
      rfl
     refine mc_cut (fun _ : Unit => S97b t u v (codesL d).length) (fun _ => Clear (rowE d) (codesL d) (codesL d).length) (fun _ => rfl) ?_ ?_
     ·refine mc_seq_runs ctx25 ?_
      simp -implicitDefEqProofs [S97]
      refine mc_block ?_
      refine mc_while (S97b t u v) (fun j => (codesL d).length - j) (Clear (rowE d) (codesL d)) 0 (fun _ => rfl) (Clear.zero _ _) ?_ rfl ?_
      ·refine sub_forget rfl rfl ?_ ?_ <;> simp -implicitDefEqProofs [S97b]
      ·intro i hi
       by_cases hil : i < (codesL d).length
       ·obtain ⟨co, hco⟩ : ∃ co, (codesL d)[i]? = some co := ⟨_, List.getElem?_eq_getElem hil⟩
        refine mc_seq_runs ctx25 ?_
        simp -implicitDefEqProofs [S97b, hil, hU.len]
        refine mc_cut (fun _ : Unit => S97c t u v i (feats d).length) (fun _ => Clear (fun _ s => inhE d (codesL d) i s) (feats d) (feats d).length) (fun _ => rfl) ?_ ?_
        ·refine mc_block ?_
         refine mc_seq_runs ctx25 ?_
         simp -implicitDefEqProofs
         refine mc_block ?_
         refine mc_while (S97c t u v i) (fun k => (feats d).length - k) (Clear (fun _ s => inhE d (codesL d) i s) (feats d)) 0 (fun _ => rfl) (Clear.zero _ _) ?_ rfl ?_
         ·refine sub_forget rfl rfl ?_ ?_ <;> simp -implicitDefEqProofs [S97c]
         ·intro k hk
          refine mc_runs ctx25 ?_
          by_cases hkl : k < (feats d).length
          ·obtain ⟨s, hs⟩ : ∃ s, (feats d)[k]? = some s := ⟨_, List.getElem?_eq_getElem hkl⟩
           have ia := ia_str hV hs
           have gi := gInh_eq ht hg hD hU hc hil s
           have e1 : IntKind.i64.wrap ((k : Int) + 1) = ((k + 1 : Nat) : Int) := wrap_nat (by omega) (by omega)
           obtain ⟨⟨ok, code⟩, hr⟩ : ∃ r, r = inhUp d (codesL d) i s d.length := ⟨_, rfl⟩
           rw [← hr] at gi
           have hlen : lenslM (.t (encB code)) = some (.t (iv (code.length : Int))) := rfl
           cases ok with
           | false =>
            have hz : inhE d (codesL d) i s = 0 := by unfold inhE; rw [← hr, if_neg (by simp)]
            simp -implicitDefEqProofs [S97c, hkl, hV.len, ia, loadM, tb25, gi, extractV, e1]
            exact Next.mk (k + 1) ⟨hk.succ hs hz, by omega⟩ (sub_forget rfl rfl (by simp -implicitDefEqProofs [S97c]) (by simp -implicitDefEqProofs [S97c]))
           | true =>
            by_cases hz0 : code.length = 0
            ·have hz : inhE d (codesL d) i s = 11 := by unfold inhE; rw [← hr, if_pos ⟨rfl, hz0⟩]
             have h5 : rowE d i co = 11 := (firstE_at hk hs (by rw [hz]; decide)).trans hz
             have h6 := firstE_at hi hco (by rw [h5]; decide)
             have hres : check5E d = 11 := by rw [hrest, h6, h5]
             simp -implicitDefEqProofs [S97c, hkl, hV.len, ia, loadM, tb25, gi, extractV, hlen, hz0, hres]
            ·have hz : inhE d (codesL d) i s = 0 := by unfold inhE; rw [← hr, if_neg (by simp [hz0])]
             have hz1 : ((code.length : Int) == 0) = false := by rw [beq_eq_false_iff_ne]; omega
             simp -implicitDefEqProofs [S97c, hkl, hV.len, ia, loadM, tb25, gi, extractV, hlen, hz0, hz1, e1]
             exact Next.mk (k + 1) ⟨hk.succ hs hz, by omega⟩ (sub_forget rfl rfl (by simp -implicitDefEqProofs [S97c]) (by simp -implicitDefEqProofs [S97c]))
          ·have hk' : k = (feats d).length := by have := hk.1; omega
           simp -implicitDefEqProofs [S97c, hkl, hV.len]
           exact Next.mk () (hk' ▸ hk) (sub_forget rfl rfl (by simp -implicitDefEqProofs [S97c, hk']) (by simp -implicitDefEqProofs [S97c]))
        ·rintro _ hk
         refine mc_runs ctx25 ?_
         have e1 : IntKind.i64.wrap ((i : Int) + 1) = ((i + 1 : Nat) : Int) := wrap_nat (by omega) (by omega)
         simp -implicitDefEqProofs [S97c, e1]
         exact Next.mk (i + 1) ⟨hi.succ hco (firstE_none hk), by omega⟩ (sub_forget rfl rfl (by simp -implicitDefEqProofs [S97b]) (by simp -implicitDefEqProofs [S97b]))
       ·have hi' : i = (codesL d).length := by have := hi.1; omega
        refine mc_runs ctx25 ?_
        simp -implicitDefEqProofs [S97b, hil, hU.len]
        exact Next.mk () (hi' ▸ hi) (sub_forget rfl rfl (by simp -implicitDefEqProofs [S97b, hi']) (by simp -implicitDefEqProofs [S97b]))
     ·rintro _ hC
      refine mc_runs ctx25 ?_
      have hres : check5E d = 0 := by rw [hrest]; exact firstE_none hC
      simp -implicitDefEqProofs [S97b, hres]
   ·have hD' : (declsE d != 0) = true := by simpa using hD
    have hres : check5E d = declsE d := by unfold check5E; rw [if_neg (by rw [hE]; simp), if_neg h64, if_pos hD]
    refine mc_runs ctx25 ?_
    simp -implicitDefEqProofs [tb25, gV, hD, hD', hres]
 ·have hres : check5E d = codesE d := by unfold check5E; rw [if_pos hE]
  rw [codesT_bad hE] at gC
  have hE' : (codesE d != 0) = true := by simpa using hE
  refine mc_runs ctx25 ?_
  simp -implicitDefEqProofs [tb25, gC, extractV, hE, hE', hres]
structure Ft where
 name : Str
 intro : Int
def eFt : Enc Ft := ⟨2, fun x => [sv x.name, iv x.intro], fun _ => rfl, by omega, fun a b h => by
 obtain ⟨a1, a2⟩ := a
 obtain ⟨b1, b2⟩ := b
 simp at h
 simp [h]⟩
noncomputable def mkFt (d : List TD) (l : List Co) (s : Str) : Ft := ⟨s, numOf l (introN d s)⟩
noncomputable def ftUp (d : List TD) (j : Nat) : List Ft := ((feats d).take j).map (mkFt d (codesL d))
noncomputable def ftL (d : List TD) : List Ft := (feats d).map (mkFt d (codesL d))
theorem ftUp_succ {d : List TD} {j : Nat} {s : Str} (h : (feats d)[j]? = some s) : ftUp d (j + 1) = ftUp d j ++ [mkFt d (codesL d) s] := by
 unfold ftUp
 rw [List.take_add_one, h]
 simp
theorem ftUp_len (d : List TD) {j : Nat} (h : j ≤ (feats d).length) : (ftUp d j).length = j := by
 unfold ftUp
 rw [List.length_map, List.length_take]
 omega
theorem ftUp_all (d : List TD) : ftUp d (feats d).length = ftL d := by unfold ftUp ftL; rw [List.take_length]
structure Fit (d : List TD) : Prop where
 good : Good d
 cod : Cod d (codesL d)
 codes : codesT d = .tu [treeS eCo (codesL d), iv 0]
 fl : (feats d).length ≤ 64
 decls : declsE d = 0
 intro : ∀ s ∈ feats d, introOK d s = true
 inh : ∀ (i : Nat), i < (codesL d).length → ∀ s ∈ feats d, inhE d (codesL d) i s = 0
theorem fit_of_check {d : List TD} (hd : DOK d) (h : check5E d = 0) : Fit d := by
 unfold check5E at h
 have hE : codesE d = 0 := Classical.byContradiction fun h1 => by rw [if_pos h1] at h; exact h1 h
 rw [if_neg (by rw [hE]; simp)] at h
 have h64 : ¬ 64 < (feats d).length := fun h1 => by rw [if_pos h1] at h; cases h
 rw [if_neg h64] at h
 have hD : declsE d = 0 := Classical.byContradiction fun h1 => by rw [if_pos h1] at h; exact h1 h
 rw [if_neg (by rw [hD]; simp)] at h
 have hI : firstE (fun _ s => introE d s) (feats d) = 0 := Classical.byContradiction fun h1 => by rw [if_pos h1] at h; exact h1 h
 rw [if_neg (by rw [hI]; simp)] at h
 obtain ⟨hg, hc, hT⟩ := codesE_zero hd hE
 refine ⟨hg, hc, hT, by omega, hD, fun s hs => ?_, fun i hi s hs => ?_⟩
 ·obtain ⟨j, hj, e⟩ := List.getElem_of_mem hs
  have : introE d s = 0 := (firstE_zero hI).2 j s hj (by rw [List.getElem?_eq_getElem hj, e])
  unfold introE at this
  split at this
  ·assumption
  ·cases this
 ·obtain ⟨j, hj, e⟩ := List.getElem_of_mem hs
  have h1 := (firstE_zero h).2 i _ hi (List.getElem?_eq_getElem hi)
  exact (firstE_zero h1).2 j s hj (by rw [List.getElem?_eq_getElem hj, e])
noncomputable def featT (d : List TD) : T := if check5E d ≠ 0 then .tu [nilS, iv (check5E d)] else .tu [treeS eFt (ftL d), iv 0]
noncomputable def tb26 : Tbl := [(97, gD fun d => iv (check5E d)), (76, gD codesT), (98, gFeats), (108, gIntro), (109, gNumber)]
theorem ctx26 : Ctx Try.prog G (orc tb26) := (TblOK.cons (gD_ok check5_call) (.cons (gD_ok codes_call) (.cons gFeats_ok (.cons gIntro_ok (.cons gNumber_ok .nil))))).ctx mixed
noncomputable def S78 (t u v : T) (d : List TD) (j : Nat) : AState := ⟨[(9, .t (iv (j : Int))), (8, rowP eFt 0 (ftUp d j)), (7, .t v), (5, .t u), (0, .t t)], rowH eFt 163 0 (ftUp d j), 1, 51⟩
theorem features_call {t : T} {d : List TD} (ht : IsS eTD t d) (hd : DOK d) : CallT Try.prog G 78 [t] (· = featT d) := by
 have gK : gD (fun d => iv (check5E d)) [t] = some (iv (check5E d)) := gD_eq ht hd
 have gC : gD codesT [t] = some (codesT d) := gD_eq ht hd
 refine k_r05_Features.call rfl ?_
 unfold M_r05_Features
 refine mc_seq_runs ctx26 ?_
 simp -implicitDefEqProofs
 by_cases hE : check5E d = 0
 ·have hF := fit_of_check hd hE
  have hg := hF.good
  have hll := hF.cod.len
  have hfl := hF.fl
  rw [hF.codes] at gC
  rw [hE] at gK
  obtain ⟨u, hu⟩ : ∃ u, u = treeS eCo (codesL d) := ⟨_, rfl⟩
  rw [← hu] at gC
  have hU : IsS eCo u (codesL d) := hu ▸ IsS.tree eCo _
  obtain ⟨v, hv⟩ : ∃ v, v = treeS eStr (feats d) := ⟨_, rfl⟩
  have hV : IsS eStr v (feats d) := hv ▸ IsS.tree eStr _
  have gF := gFeats_eq ht hg
  rw [← hv] at gF
  refine mc_seq_runs ctx26 ?_
  simp -implicitDefEqProofs [tb26, gK]
  refine mc_seq_runs ctx26 ?_
  simp -implicitDefEqProofs [tb26, gC, extractV]
  refine mc_seq_runs ctx26 ?_
  simp -implicitDefEqProofs [tb26, gF]
  refine mc_seq_runs ctx26 ?_
  simp -implicitDefEqProofs
  refine mc_cut (fun _ : Unit => S78 t u v d (feats d).length) (fun _ => True) (fun _ => rfl) ?_ ?_
  ·refine mc_seq_runs ctx26 ?_
   simp -implicitDefEqProofs
   refine mc_block ?_
   refine mc_for (S78 t u v d) (feats d).length (fun _ => rfl) ?_ rfl ?_ ?_
   ·have e0 : ftUp d 0 = [] := rfl
    unfold S78
    rw [e0]
    exact sub_row1 (k := 0) (RowAt.nil _ _ _ _) (by omega) (by omega) (by simp -implicitDefEqProofs [ren_rowP, under_rowP, ren, under, rowP])
   ·intro j hj
    obtain ⟨s, hs⟩ : ∃ s, (feats d)[j]? = some s := ⟨_, List.getElem?_eq_getElem hj⟩
    have ia := ia_str hV hs
    have gi := gIntro_eq ht hg s
    have gn := gNumber_eq hU (introN d s) (by unfold cap; omega)
    have e1 : IntKind.i64.wrap ((j : Int) + 1) = ((j + 1 : Nat) : Int) := wrap_nat (by omega) (by omega)
    have hl := ftUp_len d (Nat.le_of_lt hj)
    have hsrc : srcP (rowH eFt 163 0 (ftUp d j)) eFt.z (.t (treeS eFt [mkFt d (codesL d) s])) = _ := src_tree (IsS.tree eFt [mkFt d (codesL d) s])
    obtain ⟨b', H', nx', ap, r1, ne1, le1, lk1, ge1⟩ := app_some (e := eFt) (ty := 163) (by' := 24) (nx := 1) (RowAt.head' eFt 163 0 (ftUp d j)) hsrc (by simp; omega) (by simp; omega)
    rw [← ftUp_succ hs] at ap r1
    have hz : eFt.z = 2 := rfl
    rw [hz] at ap
    have lp : ∀ c cs, loadM false 1 (rowH eFt 163 0 (ftUp d j)) (.t (.pt (c :: cs))) = some (.t c) := fun _ _ => rfl
    have ts : tsliceM 163 2 [.string ⟨#[]⟩, .int .i64 0] 1 [(0, .t (.ag [sv s, iv (numOf (codesL d) (introN d s))]))] = some (.t (treeS eFt [mkFt d (codesL d) s])) := rfl
    have fl : fillP (fun k => [(0, 1), (1, 1)][k]?) [.t (.v (.string ⟨#[]⟩)), .t (.v (.int .i64 0))] [(0, .t (sv s)), (1, .t (iv (numOf (codesL d) (introN d s))))] = some [.t (sv s), .t (iv (numOf (codesL d) (introN d s)))] := rfl
    have ag : agOf [.t (sv s), .t (iv (numOf (codesL d) (introN d s)))] = .t (.ag [sv s, iv (numOf (codesL d) (introN d s))]) := rfl
    refine mc_runs ctx26 ?_
    simp -implicitDefEqProofs [S78, hj, hV.len, ia, lp, tb26, gi, extractV, gn, fl, ag, ts, ap, e1]
    exact sub_row1 (b := 0) (k := b') (nx' := 1) r1 (by omega) (by omega) (by simp -implicitDefEqProofs [ren_rowP, under_rowP, ren, under])
   ·refine mc_runs ctx26 ?_
    simp -implicitDefEqProofs [S78, hV.len]
    exact Next.mk () trivial (sub_row1 (k := 0) (RowAt.head' _ _ _ _) (by omega) (by omega) (by simp -implicitDefEqProofs [ren_rowP, under_rowP, ren, under]))
  ·rintro _ -
   refine mc_runs ctx26 ?_
   have hres : featT d = .tu [treeS eFt (ftL d), iv 0] := by unfold featT; rw [if_neg (by rw [hE]; simp)]
   have t2 := toT_tu2 (RowAt.head' eFt 163 0 (ftL d)) (iv 0)
   simp -implicitDefEqProofs [S78, ftUp_all, -oneOf, t2, hres]
 ·have hE' := neq_zero hE
  have hres : featT d = .tu [nilS, iv (check5E d)] := by unfold featT; rw [if_pos hE]
  refine mc_runs ctx26 ?_
  simp -implicitDefEqProofs [tb26, gK, hE, hE', hres]
def subAt (l : List Co) (i j : Nat) : Bool := subL (coAt l j) (coAt l i)
def away (l : List Co) (i j k : Nat) : Bool := decide (k = i) || (decide (k = j) || (!subAt l j k || !subAt l k i))
def keepUp (l : List Co) (i j : Nat) : Nat → Bool
 | 0 => true
 | k + 1 => keepUp l i j k && away l i j k
def isSup (l : List Co) (i j : Nat) : Bool := !(decide (j = i) || !subAt l j i) && keepUp l i j l.length
def supUp (l : List Co) (i : Nat) : Nat → List Int
 | 0 => []
 | j + 1 => supUp l i j ++ if isSup l i j then [(j : Int)] else []
theorem length_supUp (l : List Co) (i : Nat) : ∀ j, (supUp l i j).length ≤ j
 | 0 => Nat.le_refl _
 | j + 1 => by
  have := length_supUp l i j
  simp only [supUp, List.length_append]
  split
  ·simp; omega
  ·simp; omega
theorem mem_supUp {l : List Co} {i : Nat} {n : Int} : ∀ {j : Nat}, n ∈ supUp l i j → 0 ≤ n ∧ n < (j : Int)
 | 0, h => by simp [supUp] at h
 | j + 1, h => by
  simp only [supUp, List.mem_append] at h
  rcases h with h | h
  ·have := mem_supUp h; omega
  ·split at h
   ·simp at h; omega
   ·simp at h
noncomputable def tb27 : Tbl := [(107, gSubs4)]
theorem ctx27 : Ctx Try.prog G (orc tb27) := (TblOK.cons gSubs4_ok .nil).ctx mixed
def S77 (t : T) (l : List Co) (i j : Nat) : AState := ⟨[(6, .t (iv (j : Int))), (5, rowP eInt 0 (supUp l i j)), (1, .t (iv (i : Int))), (0, .t t)], rowH eInt 3 0 (supUp l i j), 1, 62⟩
def S77e (t : T) (l : List Co) (i j : Nat) : AState := ⟨[(6, .t (iv (j : Int))), (5, rowP eInt 0 (supUp l i (j + 1))), (1, .t (iv (i : Int))), (0, .t t)], rowH eInt 3 0 (supUp l i (j + 1)), 1, 62⟩
def S77i (t : T) (l : List Co) (i j k : Nat) : AState := ⟨[(8, .t (iv (k : Int))), (7, .t (bv (keepUp l i j k))), (6, .t (iv (j : Int))), (5, rowP eInt 0 (supUp l i j)), (1, .t (iv (i : Int))), (0, .t t)], rowH eInt 3 0 (supUp l i j), 1, 62⟩
theorem supers4_call {t : T} {l : List Co} (ht : IsS eCo t l) (hl : l.length ≤ 256) (hs : ∀ x ∈ l, x.code.length ≤ 1000) {i : Nat} (hi : i < l.length) : CallT Try.prog G 77 [t, iv (i : Int)] (· = treeS eInt (supUp l i l.length)) := by
 have hz : eInt.z = 1 := rfl
 have gs : ∀ {a b : Nat}, a < l.length → b < l.length → gSubs4 [t, iv (a : Int), iv (b : Int)] = some (bv (subAt l a b)) := fun ha hb => gSubs4_eq ht ha hb hs
 refine k_r04_Supers.call rfl ?_
 unfold M_r04_Supers
 refine mc_seq_runs ctx27 ?_
 simp -implicitDefEqProofs
 refine mc_seq_runs ctx27 ?_
 simp -implicitDefEqProofs
 refine mc_cut (fun _ : Unit => S77 t l i l.length) (fun _ => True) (fun _ => rfl) ?_ ?_
 ·refine mc_seq_runs ctx27 ?_
  simp -implicitDefEqProofs
  refine mc_block ?_
  refine mc_for (S77 t l i) l.length (fun _ => rfl) ?_ rfl ?_ ?_
  ·exact sub_row1 (k := 0) (RowAt.nil _ _ _ _) (by omega) (by omega) (by simp -implicitDefEqProofs [supUp, rowP, ren, under])
  ·intro j hj
   have r0 := RowAt.head' eInt 3 0 (supUp l i j)
   have hcl := length_supUp l i j
   have e1 : IntKind.i64.wrap ((j : Int) + 1) = ((j + 1 : Nat) : Int) := wrap_nat (by omega) (by omega)
   have cs : supUp l i (j + 1) = supUp l i j ++ if isSup l i j then [(j : Int)] else [] := rfl
   refine mc_seq_runs ctx27 ?_
   simp -implicitDefEqProofs [S77, hj, ht.len]
   refine mc_cut (fun _ : Unit => S77e t l i j) (fun _ => True) (fun _ => rfl) ?_ ?_
   ·refine mc_block ?_
    have g1 := gs hj hi
    by_cases ji : j = i
    ·have hq : isSup l i j = false := by simp [isSup, ji]
     have cs' : supUp l i (j + 1) = supUp l i j := by rw [cs, hq]; simp
     have ji' : ((j : Int) == (i : Int)) = true := by simp [ji]
     subst ji
     refine mc_seq_runs ctx27 ?_
     simp -implicitDefEqProofs
     refine Next.mk () trivial ?_
     unfold S77e
     rw [cs']
     exact sub_row1 (k := 0) r0 (by omega) (by omega) (by simp -implicitDefEqProofs [ren_rowP, under_rowP, ren, under])
    ·have ji' : ((j : Int) == (i : Int)) = false := by rw [beq_eq_false_iff_ne]; omega
     cases z : subAt l j i with
     | false =>
      rw [z] at g1
      have hq : isSup l i j = false := by simp [isSup, z]
      have cs' : supUp l i (j + 1) = supUp l i j := by rw [cs, hq]; simp
      refine mc_seq_runs ctx27 ?_
      simp -implicitDefEqProofs [ji', ji, tb27, g1]
      refine Next.mk () trivial ?_
      unfold S77e
      rw [cs']
      exact sub_row1 (k := 0) r0 (by omega) (by omega) (by simp -implicitDefEqProofs [ren_rowP, under_rowP, ren, under])
     | true =>
      rw [z] at g1
      have hq : isSup l i j = keepUp l i j l.length := by simp [isSup, z, ji]
      refine mc_seq_runs ctx27 ?_
      simp -implicitDefEqProofs [ji', ji, tb27, g1]
      refine mc_seq_runs ctx27 ?_
      simp -implicitDefEqProofs
      refine mc_cut (fun _ : Unit => S77i t l i j l.length) (fun _ => True) (fun _ => rfl) ?_ ?_
      ·refine mc_seq_runs ctx27 ?_
       simp -implicitDefEqProofs
       refine mc_block ?_
       refine mc_for (S77i t l i j) l.length (fun _ => rfl) ?_ rfl ?_ ?_
       ·exact sub_row1 (k := 0) r0 (by omega) (by omega) (by simp -implicitDefEqProofs [ren_rowP, under_rowP, ren, under, keepUp])
       ·intro k hk
        have e2 : IntKind.i64.wrap ((k : Int) + 1) = ((k + 1 : Nat) : Int) := wrap_nat (by omega) (by omega)
        have ks : keepUp l i j (k + 1) = (keepUp l i j k && away l i j k) := rfl
        have g2 := gs hj hk
        have g3 := gs hk hi
        have ki : ((k : Int) == (i : Int)) = decide (k = i) := by
         by_cases h : k = i
         ·simp [h]
         ·rw [decide_eq_false h, beq_eq_false_iff_ne]; omega
        have kj : ((k : Int) == (j : Int)) = decide (k = j) := by
         by_cases h : k = j
         ·simp [h]
         ·rw [decide_eq_false h, beq_eq_false_iff_ne]; omega
        refine mc_runs ctx27 ?_
        unfold S77i
        rw [ks]
        unfold away
        generalize keepUp l i j k = q0 at *
        generalize subAt l j k = q3 at *
        generalize subAt l k i = q4 at *
        generalize decide (k = i) = q1 at *
        generalize decide (k = j) = q2 at *
        cases q0 with
        | false => (simp -implicitDefEqProofs [hk, ht.len, ki, kj, tb27, g2, g3, e2]; exact sub_row1 (k := 0) r0 (by omega) (by omega) (by simp -implicitDefEqProofs [ren_rowP, under_rowP, ren, under]))
        | true =>
         cases q1 with
         | true => (simp -implicitDefEqProofs [hk, ht.len, ki, kj, tb27, g2, g3, e2]; exact sub_row1 (k := 0) r0 (by omega) (by omega) (by simp -implicitDefEqProofs [ren_rowP, under_rowP, ren, under]))
         | false =>
          cases q2 with
          | true => (simp -implicitDefEqProofs [hk, ht.len, ki, kj, tb27, g2, g3, e2]; exact sub_row1 (k := 0) r0 (by omega) (by omega) (by simp -implicitDefEqProofs [ren_rowP, under_rowP, ren, under]))
          | false =>
           cases q3 with
           | false => (simp -implicitDefEqProofs [hk, ht.len, ki, kj, tb27, g2, g3, e2]; exact sub_row1 (k := 0) r0 (by omega) (by omega) (by simp -implicitDefEqProofs [ren_rowP, under_rowP, ren, under]))
           | true => cases q4 <;> (simp -implicitDefEqProofs [hk, ht.len, ki, kj, tb27, g2, g3, e2]; exact sub_row1 (k := 0) r0 (by omega) (by omega) (by simp -implicitDefEqProofs [ren_rowP, under_rowP, ren, under]))
       ·refine mc_runs ctx27 ?_
        simp -implicitDefEqProofs [S77i, ht.len]
        exact Next.mk () trivial (sub_row1 (k := 0) r0 (by omega) (by omega) (by simp -implicitDefEqProofs [ren_rowP, under_rowP, ren, under]))
      ·rintro _ -
       refine mc_runs ctx27 ?_
       rw [hq] at cs
       cases zk : keepUp l i j l.length with
       | false =>
        rw [zk] at cs
        simp only [Bool.false_eq_true, if_false, List.append_nil] at cs
        simp -implicitDefEqProofs [S77i, zk]
        refine Next.mk () trivial ?_
        unfold S77e
        rw [cs]
        exact sub_row1 (k := 0) r0 (by omega) (by omega) (by simp -implicitDefEqProofs [ren_rowP, under_rowP, ren, under])
       | true =>
        rw [zk] at cs
        simp only [if_true] at cs
        have bs : bsliceM 3 1 [.int .i64 0] 1 [(0, .t (iv (j : Int)))] 1 = some (.row 1 0 1 1, .cells 3 [.t (iv (j : Int))]) := rfl
        obtain ⟨b2, H2, n2, ap2, r2, ne2, _⟩ := app_some (e := eInt) (ty := 3) (by' := 8) (nx := 2) (m := [(j : Int)]) (r0.cons (k := 1) (r := .cells 3 [.t (iv (j : Int))]) (by omega)) (src_one (b := 1) (ty := 3) _ (by simp [eInt])) (by simp; omega) (by simp; omega)
        rw [hz] at ap2
        simp -implicitDefEqProofs [S77i, zk, bs, ap2]
        refine Next.mk () trivial ?_
        unfold S77e
        rw [cs]
        exact sub_row1 (k := b2) r2 (by omega) (by omega) (by simp -implicitDefEqProofs [ren_rowP, under_rowP, ren, under])
   ·rintro _ -
    refine mc_runs ctx27 ?_
    simp -implicitDefEqProofs [S77e, e1]
    exact sub_row1 (k := 0) (RowAt.head' _ _ _ _) (by omega) (by omega) (by simp -implicitDefEqProofs [ren_rowP, under_rowP, ren, under])
  ·refine mc_runs ctx27 ?_
   simp -implicitDefEqProofs [S77, ht.len]
   exact Next.mk () trivial (sub_row1 (k := 0) (RowAt.head' _ _ _ _) (by omega) (by omega) (by simp -implicitDefEqProofs [ren_rowP, under_rowP, ren, under]))
 ·rintro _ -
  refine mc_runs ctx27 ?_
  have tt := (RowAt.head' eInt 3 0 (supUp l i l.length)).toT
  simp -implicitDefEqProofs [S77, tt]
end Go.Proofs.Ytbiadmfmjnoecaa
