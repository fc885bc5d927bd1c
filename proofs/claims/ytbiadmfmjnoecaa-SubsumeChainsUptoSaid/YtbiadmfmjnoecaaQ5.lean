/-
  The types of a hierarchy with their codes: what the function returns.
-/
import Derived.Test.YtbiadmfmjnoecaaQ4
import Derived.Test.YtbiadmfmjnoecaaB5
namespace Go.Proofs.Ytbiadmfmjnoecaa
set_option linter.unusedSimpArgs false
set_option linter.unusedVariables false
open Go Go.Abs
theorem toT_tu2 {α : Type} {e : Enc α} {ty : Nat} {H : Heap} {b : Nat} {l : List α} (h : RowAt e ty H b l) (y : T) :
  toT H (oneOf [rowP e b l, .t y]) = some (.tu [treeS e l, y], lentS b l) := by
 have ht := h.toT
 cases l with
 | nil => rfl
 | cons x r =>
  show toT H (.tu [rowP e b (x :: r), .t y]) = _
  simp only [toT, toTs, ht, Option.map_some, List.append_nil]
instance : Inhabited Co := ⟨⟨emptyS, []⟩⟩
def insAt (x : Co) (out : List Co) : Nat → Nat
 | 0 => 0
 | k + 1 => if before x (out.getD k default) then insAt x out k else k + 1
theorem insAt_le (x : Co) (out : List Co) : ∀ k, insAt x out k ≤ k
 | 0 => Nat.le_refl _
 | k + 1 => by
  unfold insAt
  have := insAt_le x out k
  split <;> omega
def ins (x : Co) (out : List Co) : List Co := out.take (insAt x out out.length) ++ [x] ++ out.drop (insAt x out out.length)
theorem length_ins (x : Co) (out : List Co) : (ins x out).length = out.length + 1 := by
 have := insAt_le x out out.length
 unfold ins
 simp
 omega
theorem mem_ins {x y : Co} {out : List Co} : y ∈ ins x out ↔ y = x ∨ y ∈ out := by
 unfold ins
 rw [List.mem_append, List.mem_append]
 constructor
 ·rintro ((h | h) | h)
  ·exact .inr (List.mem_of_mem_take h)
  ·exact .inl (by simpa using h)
  ·exact .inr (List.mem_of_mem_drop h)
 ·rintro (rfl | h)
  ·exact .inl (.inr (by simp))
  ·rw [← List.take_append_drop (insAt x out out.length) out] at h
   rcases List.mem_append.1 h with h | h
   ·exact .inl (.inl h)
   ·exact .inr h
noncomputable def mkCo (d : List TD) (all : List Str) (codes : List (List W)) (b : List W) : Co := ⟨nameOf d all codes b, b⟩
noncomputable def coUp (d : List TD) (all : List Str) (codes f : List (List W)) : Nat → List Co
 | 0 => []
 | j + 1 => ins (mkCo d all codes (f.getD j [])) (coUp d all codes f j)
theorem length_coUp (d : List TD) (all : List Str) (codes f : List (List W)) : ∀ j, (coUp d all codes f j).length = j
 | 0 => rfl
 | j + 1 => by simp only [coUp, length_ins, length_coUp d all codes f j]
theorem mem_coUp {d : List TD} {all : List Str} {codes f : List (List W)} {y : Co} : ∀ {j : Nat}, j ≤ f.length → (y ∈ coUp d all codes f j ↔ ∃ i x, i < j ∧ f[i]? = some x ∧ y = mkCo d all codes x)
 | 0, _ => by simp [coUp]
 | j + 1, hj => by
  have hgd : f[j]? = some (f.getD j []) := by simp [List.getD_eq_getElem?_getD, show j < f.length by omega]
  rw [coUp, mem_ins, mem_coUp (j := j) (by omega)]
  constructor
  ·rintro (rfl | ⟨i, x, h1, h2, h3⟩)
   ·exact ⟨j, _, by omega, hgd, rfl⟩
   ·exact ⟨i, x, by omega, h2, h3⟩
  ·rintro ⟨i, x, h1, h2, h3⟩
   by_cases e : i = j
   ·subst e
    rw [hgd] at h2
    injection h2 with h2
    left
    rw [h3, h2]
   ·exact .inr ⟨i, x, by omega, h2, h3⟩
noncomputable def codesOf (d : List TD) : List (List W) := (names d).map (codeW d (names d))
noncomputable def codesL (d : List TD) : List Co := coUp d (names d) (codesOf d) (family (codesOf d)) (family (codesOf d)).length
noncomputable def codesT (d : List TD) : T :=
 if checkE d ≠ 0 then .tu [nilS, iv (checkE d)] else if 256 < (family (codesOf d)).length then .tu [nilS, iv 7] else .tu [treeS eCo (codesL d), iv 0]
noncomputable def gCode : List T → Option T := g3 (tSl eTD) (tSl eStr) tStr fun d all s => open Classical in if DOK d ∧ all.length ≤ 256 then some (encB (codeW d all s)) else none
theorem gCode_ok : GOK Try.prog G 103 gCode := g3_ok fun a b c x y z r ha hb hc hr => by
 obtain rfl : c = sv z := hc
 split at hr
 ·rename_i h; injection hr with hr; subst hr; exact code_call ha h.1 hb h.2 z
 ·cases hr
theorem gCode_eq {t u : T} {d : List TD} {all : List Str} (ht : IsS eTD t d) (hd : DOK d) (hu : IsS eStr u all) (hl : all.length ≤ 256) (s : Str) : gCode [t, u, sv s] = some (encB (codeW d all s)) :=
 (g3_eq (τ := tSl eTD) (σ := tSl eStr) (ρ := tStr) ht hu rfl).trans (if_pos ⟨hd, hl⟩)
noncomputable def gFam : List T → Option T := g1 (tSl eB) fun l => open Classical in if 0 < l.length ∧ l.length ≤ 256 ∧ (∀ x ∈ l, x.length ≤ 64) then some (treeS eB (family l)) else none
theorem gFam_ok : GOK Try.prog G 104 gFam := g1_ok fun a x r ha hr => by
 split at hr
 ·rename_i h; injection hr with hr; subst hr; exact family_call ha h.1 h.2.1 h.2.2
 ·cases hr
theorem gFam_eq {t : T} {l : List (List W)} (ht : IsS eB t l) (h0 : 0 < l.length) (hl : l.length ≤ 256) (hs : ∀ x ∈ l, x.length ≤ 64) : gFam [t] = some (treeS eB (family l)) :=
 (g1_eq (τ := tSl eB) ht).trans (if_pos ⟨h0, hl, hs⟩)
noncomputable def gName4 : List T → Option T := g4 (tSl eTD) (tSl eStr) (tSl eB) tB fun d all codes b => open Classical in if Good d ∧ codes.length = all.length ∧ all.length ≤ 256 ∧ (∀ s ∈ all, s.size ≤ cap) ∧ (∀ x ∈ codes, x.length ≤ 64) ∧ b.length ≤ 64 then some (sv (nameOf d all codes b)) else none
theorem gName4_ok : GOK Try.prog G 105 gName4 := g4_ok fun a b c e x y z u r ha hb hc he hr => by
 obtain rfl : e = encB u := he
 split at hr
 ·rename_i h; injection hr with hr; subst hr; exact name4_call ha h.1 hb hc h.2.1 h.2.2.1 h.2.2.2.1 h.2.2.2.2.1 h.2.2.2.2.2
 ·cases hr
noncomputable def gBefore : List T → Option T := g2 (tAg eCo) (tAg eCo) fun a b => if a.code.length ≤ 1000 ∧ b.code.length ≤ 1000 then some (bv (before a b)) else none
theorem gBefore_ok : GOK Try.prog G 106 gBefore := g2_ok fun a b x y r ha hb hr => by
 obtain rfl : a = .ag (eCo.enc x) := ha
 obtain rfl : b = .ag (eCo.enc y) := hb
 split at hr
 ·rename_i h; injection hr with hr; subst hr; exact before_call h.1 h.2
 ·cases hr
theorem gBefore_eq {a b : Co} (ha : a.code.length ≤ 1000) (hb : b.code.length ≤ 1000) : gBefore [.ag (eCo.enc a), .ag (eCo.enc b)] = some (bv (before a b)) :=
 (g2_eq (τ := tAg eCo) (σ := tAg eCo) (x := a) (y := b) rfl rfl).trans (if_pos ⟨ha, hb⟩)
noncomputable def tb20 : Tbl := [(101, gD fun d => iv (checkE d)), (102, gD fun d => treeS eStr (names d)), (103, gCode), (104, gFam), (105, gName4), (106, gBefore)]
theorem ctx20 : Ctx Try.prog G (orc tb20) :=
 (TblOK.cons (gD_ok check3_call) (.cons (gD_ok fun ht hd => names_call ht (by have := hd.1; unfold cap; omega)) (.cons gCode_ok (.cons gFam_ok (.cons gName4_ok (.cons gBefore_ok .nil)))))).ctx mixed
theorem mem_names {d : List TD} {s : Str} : s ∈ names d ↔ ∃ x ∈ d, x.name = s := by
 have key : ∀ (l : List TD) (acc : List Str), s ∈ l.foldl (fun out x => put out x.name) acc ↔ s ∈ acc ∨ ∃ x ∈ l, x.name = s := by
  intro l
  induction l with
  | nil => intro acc; simp
  | cons y l ih =>
   intro acc
   rw [List.foldl_cons, ih, mem_put]
   constructor
   ·rintro ((h | h) | ⟨x, h1, h2⟩)
    ·exact .inl h
    ·exact .inr ⟨y, by simp, h.symm⟩
    ·exact .inr ⟨x, by simp [h1], h2⟩
   ·rintro (h | ⟨x, h1, h2⟩)
    ·exact .inl (.inl h)
    ·rcases List.mem_cons.1 h1 with rfl | h1
     ·exact .inl (.inr h2.symm)
     ·exact .inr ⟨x, h1, h2⟩
 have := key d []
 simpa [names] using this
theorem length_names (d : List TD) : (names d).length ≤ d.length := by
 have := length_namesUpTo d d.length
 unfold namesUpTo at this
 rw [List.take_length] at this
 exact this
noncomputable def S76 (t : T) (d : List TD) (j : Nat) : AState := ⟨[(7, .t (iv (j : Int))), (6, rowP eB 0 ((codesOf d).take j)), (5, .t (treeS eStr (names d))), (0, .t t)], rowH eB 101 0 ((codesOf d).take j), 1, 92⟩
noncomputable def S76e (t : T) (d : List TD) : AState := ⟨[(6, .t (treeS eB (codesOf d))), (5, .t (treeS eStr (names d))), (0, .t t)], [], 1, 92⟩
noncomputable def S76b (t : T) (d : List TD) (j : Nat) : AState := ⟨[(10, .t (iv (j : Int))), (9, rowP eCo 0 (coUp d (names d) (codesOf d) (family (codesOf d)) j)), (8, .t (treeS eB (family (codesOf d)))), (6, .t (treeS eB (codesOf d))), (5, .t (treeS eStr (names d))), (0, .t t)], rowH eCo 116 0 (coUp d (names d) (codesOf d) (family (codesOf d)) j), 1, 92⟩
noncomputable def S76c (t : T) (d : List TD) (j : Nat) (x : Co) (k : Nat) : AState := ⟨[(12, .t (iv (k : Int))), (11, .ptr 1 0), (10, .t (iv (j : Int))), (9, rowP eCo 0 (coUp d (names d) (codesOf d) (family (codesOf d)) j)), (8, .t (treeS eB (family (codesOf d)))), (6, .t (treeS eB (codesOf d))), (5, .t (treeS eStr (names d))), (0, .t t)],
 rowH eCo 116 0 (coUp d (names d) (codesOf d) (family (codesOf d)) j) ++ rowH eCo 116 1 [x], 2, 92⟩
noncomputable def S76d (t : T) (d : List TD) (j : Nat) : AState := ⟨[(10, .t (iv (j : Int))), (9, rowP eCo 0 (coUp d (names d) (codesOf d) (family (codesOf d)) (j + 1))), (8, .t (treeS eB (family (codesOf d)))), (6, .t (treeS eB (codesOf d))), (5, .t (treeS eStr (names d))), (0, .t t)], rowH eCo 116 0 (coUp d (names d) (codesOf d) (family (codesOf d)) (j + 1)), 1, 92⟩
theorem codes_call {t : T} {d : List TD} (ht : IsS eTD t d) (hd : DOK d) : CallT Try.prog G 76 [t] (· = codesT d) := by
 have hzB : eB.z = 1 := rfl
 have hzC : eCo.z = 2 := rfl
 have q1 := gD_eq (f := fun d => iv (checkE d)) ht hd
 have q2 := gD_eq (f := fun d => treeS eStr (names d)) ht hd
 refine k_r04_Codes.call rfl ?_
 unfold M_r04_Codes
 refine mc_seq_runs ctx20 ?_
 simp -implicitDefEqProofs
 by_cases hE : checkE d = 0
 ·have hg := good_of_check hd hE
  have hnl : (names d).length ≤ 256 := Nat.le_trans (length_names d) hg.len
  have hN := IsS.tree eStr (names d)
  have hcl : (codesOf d).length = (names d).length := by simp [codesOf]
  have hcs : ∀ x ∈ codesOf d, x.length ≤ 64 := fun x hx => by
   obtain ⟨s, _, rfl⟩ := List.mem_map.1 hx
   exact len_codeW d _ s
  have hc0 : 0 < (codesOf d).length := by
   rw [hcl]
   have hne := hg.ne
   cases hd' : d with
   | nil => rw [hd'] at hne; simp at hne
   | cons x r =>
    have : x.name ∈ names (x :: r) := mem_names.2 ⟨x, by simp, rfl⟩
    exact List.length_pos_of_mem this
  have hnsz : ∀ s ∈ names d, s.size ≤ cap := fun s hs => by
   obtain ⟨x, hx, rfl⟩ := mem_names.1 hs
   exact (hd.2 x hx).size
  refine mc_seq_runs ctx20 ?_
  simp -implicitDefEqProofs [tb20, q1, hE]
  refine mc_seq_runs ctx20 ?_
  simp -implicitDefEqProofs [tb20, q2]
  refine mc_seq_runs ctx20 ?_
  simp -implicitDefEqProofs
  refine mc_cut (fun _ : Unit => S76e t d) (fun _ => True) (fun _ => rfl) ?_ ?_
  ·refine mc_seq_runs ctx20 ?_
   simp -implicitDefEqProofs
   refine mc_block ?_
   refine mc_for (S76 t d) (names d).length (fun _ => rfl) ?_ rfl ?_ ?_
   ·exact sub_row1 (k := 0) (RowAt.nil _ _ _ _) (by omega) (by omega) (by simp -implicitDefEqProofs [rowP, ren, under])
   ·intro j hj
    refine mc_runs ctx20 ?_
    obtain ⟨s, hs⟩ : ∃ s, (names d)[j]? = some s := ⟨_, List.getElem?_eq_getElem hj⟩
    have ia := ia_str hN hs
    have gc := gCode_eq ht hd hN hnl s
    have r0 := RowAt.head' eB 101 0 ((codesOf d).take j)
    have hlt : ((codesOf d).take j).length = j := by rw [List.length_take]; omega
    have cs : (codesOf d).take (j + 1) = (codesOf d).take j ++ [codeW d (names d) s] := by
     have : (codesOf d)[j]? = some (codeW d (names d) s) := by simp [codesOf, hs]
     rw [List.take_add_one, this]; rfl
    have lp : ∀ (cs : List T) (c : T), loadM false 1 (rowH eB 101 0 ((codesOf d).take j)) (.t (.pt (c :: cs))) = some (.t c) := fun cs c => rfl
    have e1 : IntKind.i64.wrap ((j : Int) + 1) = ((j + 1 : Nat) : Int) := wrap_nat (by omega) (by omega)
    have bs : bsliceM 101 1 [.slice none 0 0] 1 [(0, .t (encB (codeW d (names d) s)))] 1 = some (.row 1 0 1 1, .cells 101 [.t (encB (codeW d (names d) s))]) := rfl
    obtain ⟨b2, H2, n2, ap2, r2, ne2, _⟩ := app_some (e := eB) (ty := 101) (by' := 24) (nx := 2) (m := [codeW d (names d) s]) (r0.cons (k := 1) (r := .cells 101 [.t (encB (codeW d (names d) s))]) (by omega)) (src_one (b := 1) (ty := 101) _ (by simp [eB])) (by rw [hlt]; simp; omega) (by rw [hlt]; simp; omega)
    rw [hzB] at ap2
    simp -implicitDefEqProofs [S76, hj, hN.len, ia, lp, tb20, gc, bs, ap2, e1]
    rw [cs]
    exact sub_row1 (k := b2) r2 (by omega) (by omega) (by simp -implicitDefEqProofs [ren_rowP, under_rowP, ren, under])
   ·refine mc_runs ctx20 ?_
    have r1 := RowAt.head' eB 101 0 (codesOf d)
    have tk : (codesOf d).take (names d).length = codesOf d := List.take_of_length_le (by omega)
    simp -implicitDefEqProofs [S76, hN.len]
    rw [tk]
    refine Next.mk () trivial ((sub_frz [0]).trans (sub_forget rfl rfl ?_ ?_))
    ·simp -implicitDefEqProofs [S76e, AState.frz, frz_row r1, frz_t]
    ·simp -implicitDefEqProofs [S76e]
  ·rintro _ -
   obtain ⟨f, hf⟩ : ∃ f, f = family (codesOf d) := ⟨_, rfl⟩
   have hfam := famF_fam 300 0 (codesOf d)
   have hfl : f.length ≤ 257 := by rw [hf]; exact hfam.len (by omega)
   have hfs : ∀ x ∈ f, x.length ≤ 64 := by rw [hf]; exact hfam.size hcs
   have gfm := gFam_eq (IsS.tree eB (codesOf d)) hc0 (by omega) hcs
   rw [← hf] at gfm
   have hF := IsS.tree eB f
   refine mc_seq_runs ctx20 ?_
   simp -implicitDefEqProofs [S76e, tb20, gfm]
   by_cases h256 : 256 < f.length
   ·have h256' : (256 : Int) < (f.length : Int) := by omega
    have hres : codesT d = .tu [nilS, iv 7] := by unfold codesT; rw [if_neg (by rw [hE]; simp), ← hf, if_pos h256]
    rw [hres]
    refine mc_runs ctx20 ?_
    simp -implicitDefEqProofs [hF.len, h256, h256']
   ·have h256' : ¬ (256 : Int) < (f.length : Int) := by omega
    have hres : codesT d = .tu [treeS eCo (codesL d), iv 0] := by unfold codesT; rw [if_neg (by rw [hE]; simp), ← hf, if_neg h256]
    rw [hres]
    refine mc_seq_runs ctx20 ?_
    simp -implicitDefEqProofs [hF.len, h256, h256']
    refine mc_seq_runs ctx20 ?_
    simp -implicitDefEqProofs
    refine mc_cut (fun _ : Unit => S76b t d f.length) (fun _ => True) (fun _ => rfl) ?_ ?_
    ·refine mc_seq_runs ctx20 ?_
     simp -implicitDefEqProofs
     refine mc_block ?_
     refine mc_for (S76b t d) f.length (fun _ => rfl) ?_ rfl ?_ ?_
     ·exact sub_row1 (k := 0) (RowAt.nil _ _ _ _) (by omega) (by omega) (by simp -implicitDefEqProofs [hf, coUp, rowP, ren, under])
     ·intro j hj
      obtain ⟨x, hx⟩ : ∃ x, f[j]? = some x := ⟨_, List.getElem?_eq_getElem hj⟩
      have hgx : f.getD j [] = x := by simp [List.getD_eq_getElem?_getD, hx]
      have hxl := hfs x (List.mem_of_getElem? hx)
      obtain ⟨out, hout⟩ : ∃ out, out = coUp d (names d) (codesOf d) f j := ⟨_, rfl⟩
      have hol : out.length = j := by rw [hout]; exact length_coUp _ _ _ _ _
      have hoc : ∀ y ∈ out, y.code.length ≤ 64 := fun y hy => by
       rw [hout] at hy
       obtain ⟨i, z, h1, h2, rfl⟩ := (mem_coUp (by omega)).1 hy
       exact hfs z (List.mem_of_getElem? h2)
      obtain ⟨co, hco⟩ : ∃ co, co = mkCo d (names d) (codesOf d) x := ⟨_, rfl⟩
      have hcc : co.code.length ≤ 64 := by rw [hco]; exact hxl
      have hnext : coUp d (names d) (codesOf d) f (j + 1) = ins co out := by rw [coUp, hgx, ← hco, ← hout]
      have r0 := RowAt.head' eCo 116 0 out
      have gn : gName4 [t, treeS eStr (names d), treeS eB (codesOf d), encB x] = some (sv (nameOf d (names d) (codesOf d) x)) :=
       (g4_eq (τ := tSl eTD) (σ := tSl eStr) (ρ := tSl eB) (π := tB) (u := x) ht hN (IsS.tree eB (codesOf d)) rfl).trans (if_pos ⟨hg, hcl, hnl, hnsz, hcs, hxl⟩)
      have ix := ia_B hF hx
      have lp : ∀ (cs : List T) (c : T), loadM false 1 (rowH eCo 116 0 out) (.t (.pt (c :: cs))) = some (.t c) := fun cs c => rfl
      have en : eCo.enc co = [sv (nameOf d (names d) (codesOf d) x), encB x] := by rw [hco]; rfl
      have e1 : IntKind.i64.wrap ((j : Int) + 1) = ((j + 1 : Nat) : Int) := wrap_nat (by omega) (by omega)
      have fl : fillP (fun k => ([(0, 1), (1, 1)] : List (Nat × Nat))[k]?) [.t (.v (.string ⟨#[]⟩)), .t (.v (.slice none 0 0))] [(0, .t (sv (nameOf d (names d) (codesOf d) x))), (1, .t (encB x))] = some [.t (sv (nameOf d (names d) (codesOf d) x)), .t (encB x)] := rfl
      refine mc_seq_runs ctx20 ?_
      simp -implicitDefEqProofs [S76b, ← hf, ← hout, hj, hF.len]
      refine mc_cut (fun _ : Unit => S76d t d j) (fun _ => True) (fun _ => rfl) ?_ ?_
      ·refine mc_block ?_
       refine mc_seq_runs ctx20 ?_
       simp -implicitDefEqProofs [ix, lp, tb20, gn, fl, agOf, storeM, cellsP, splice]
       refine mc_seq_runs ctx20 ?_
       simp -implicitDefEqProofs [len_rowP]
       refine mc_cut (S76c t d j co) (fun k => k = insAt co out out.length) (fun _ => rfl) ?_ ?_
       ·refine mc_block ?_
        refine mc_while (S76c t d j co) (fun k => k) (fun k => k ≤ out.length ∧ insAt co out k = insAt co out out.length) out.length (fun _ => rfl) ⟨Nat.le_refl _, rfl⟩ ?_ rfl ?_
        ·unfold S76c
         rw [← hf, ← hout]
         refine sub_row2 (e := eCo) (e' := eCo) (k := 0) (k' := 1) (r0.cons (show (1 : Nat) ≠ 0 by omega)) (.inr (by simp [rowOf, en])) (by omega) (by omega) (by omega) (by omega) (by omega) (by omega) ?_
         simp -implicitDefEqProofs [hol, ← hf, ← hout, ren_rowP, under_rowP, ren, under]
        ·rintro k ⟨hk, hki⟩
         obtain ⟨H0, hH0⟩ : ∃ H0, H0 = rowH eCo 116 0 out ++ rowH eCo 116 1 [co] := ⟨_, rfl⟩
         have a0 : RowAt eCo 116 H0 0 out := by rw [hH0]; exact RowAt.head _ _ _ _ _
         have a1 : RowAt eCo 116 H0 1 [co] := by rw [hH0]; exact (RowAt.head' _ _ _ _).left (by omega)
         have l1 := a1.loadAg (i := 0) (x := co) rfl
         rw [hzC, Nat.zero_mul] at l1
         refine mc_runs ctx20 ?_
         rcases Nat.eq_zero_or_pos k with h0 | h0
         ·subst h0
          simp -implicitDefEqProofs [S76c, ← hf, ← hout, ← hH0]
          refine Next.mk 0 (by rw [← hki]; rfl) ?_
          unfold S76c
          rw [← hf, ← hout]
          refine sub_row2 (e := eCo) (e' := eCo) (k := 0) (k' := 1) a0 a1 (by omega) (by omega) (by omega) (by omega) (by omega) (by omega) ?_
          simp -implicitDefEqProofs [ren_rowP, under_rowP, ren, under]
         ·obtain ⟨k', hk'⟩ : ∃ k', k' + 1 = k := ⟨k - 1, by omega⟩
          obtain ⟨y, hy⟩ : ∃ y, out[k']? = some y := ⟨_, List.getElem?_eq_getElem (by omega)⟩
          have hgy : out.getD k' default = y := by simp [List.getD_eq_getElem?_getD, hy]
          have iy := iaddr_rowP (e := eCo) (b := 0) hy .i64
          have ly := a0.loadAg hy
          rw [hzC] at iy ly
          have gb := gBefore_eq (a := co) (b := y) (by omega) (Nat.le_trans (hoc y (List.mem_of_getElem? hy)) (by omega))
          have w1 : IntKind.i64.wrap ((k : Int) - 1) = (k' : Int) := by rw [wrap_i64 (by omega) (by omega)]; omega
          have is : insAt co out k = if before co y then insAt co out k' else k := by rw [← hk']; simp only [insAt, hgy]
          cases z : before co y with
          | true =>
           rw [z] at gb is
           simp only [if_true] at is
           simp -implicitDefEqProofs [S76c, ← hf, ← hout, ← hH0, h0, l1, w1, iy, ly, tb20, gb]
           refine Next.mk k' ⟨⟨by omega, by rw [← is]; exact hki⟩, by omega⟩ ?_
           unfold S76c
           rw [← hf, ← hout]
           refine sub_row2 (e := eCo) (e' := eCo) (k := 0) (k' := 1) a0 a1 (by omega) (by omega) (by omega) (by omega) (by omega) (by omega) ?_
           simp -implicitDefEqProofs [ren_rowP, under_rowP, ren, under]
          | false =>
           rw [z] at gb is
           simp only [Bool.false_eq_true, if_false] at is
           simp -implicitDefEqProofs [S76c, ← hf, ← hout, ← hH0, h0, l1, w1, iy, ly, tb20, gb]
           refine Next.mk k (by rw [← hki]; exact is.symm) ?_
           unfold S76c
           rw [← hf, ← hout]
           refine sub_row2 (e := eCo) (e' := eCo) (k := 0) (k' := 1) a0 a1 (by omega) (by omega) (by omega) (by omega) (by omega) (by omega) ?_
           simp -implicitDefEqProofs [ren_rowP, under_rowP, ren, under]
       ·rintro k hk
        have hkl : k ≤ out.length := by rw [hk]; exact insAt_le _ _ _
        obtain ⟨H0, hH0⟩ : ∃ H0, H0 = rowH eCo 116 0 out ++ rowH eCo 116 1 [co] := ⟨_, rfl⟩
        have a0 : RowAt eCo 116 H0 0 out := by rw [hH0]; exact RowAt.head _ _ _ _ _
        have a1 : RowAt eCo 116 H0 1 [co] := by rw [hH0]; exact (RowAt.head' _ _ _ _).left (by omega)
        obtain ⟨p1, s1, hp1⟩ := slice_row_to (e := eCo) 0 out hkl .i64
        obtain ⟨p2, s2, hp2⟩ := slice_row_from (e := eCo) 0 out hkl .i64
        have lt1 : (out.take k).length = k := by rw [List.length_take]; omega
        have lt2 : (out.drop k).length = out.length - k := by simp
        obtain ⟨b1, H1, n1, ap1, r1, ne1, le1, lk1, ge1⟩ := app_some (e := eCo) (ty := 116) (by' := 40) (nx := 2) (b := 7) (l := []) (m := out.take k) (RowAt.nil _ _ H0 _) (hp1 _ _ a0) (by rw [lt1]; simp; omega) (by rw [lt1]; simp; omega)
        rw [List.nil_append] at ap1 r1
        have a1' : RowAt eCo 116 H1 1 [co] := a1.imp id fun h => by rw [lk1 1 (by omega) (by omega)]; exact h
        have l1 := a1'.loadAg (i := 0) (x := co) rfl
        rw [hzC, Nat.zero_mul] at l1
        obtain ⟨b2, H2, n2, ap2, r2, ne2, le2, lk2, ge2⟩ := app_some (e := eCo) (ty := 116) (by' := 40) (nx := n1 + 1) (m := [co]) (r1.cons (r := .cells 116 ((eCo.enc co).map .t)) (Ne.symm ne1)) (src_one (b := n1) (ty := 116) co (by simp)) (by rw [lt1]; simp; omega) (by rw [lt1]; simp; omega)
        have a0' : RowAt eCo 116 H2 0 out := a0.imp id fun h => by
         rw [lk2 0 (by omega) (by omega), look_cons, if_neg (by omega), lk1 0 (by omega) (by omega)]
         exact h
        obtain ⟨b3, H3, n3, ap3, r3, ne3, le3, lk3, ge3⟩ := app_some (e := eCo) (ty := 116) (by' := 40) (nx := n2) (m := out.drop k) r2 (hp2 _ _ a0') (by simp; omega) (by simp; omega)
        have hins : out.take k ++ [co] ++ out.drop k = ins co out := by unfold ins; rw [← hk]
        rw [hins] at ap3 r3
        rw [hzC] at ap1 ap2 ap3 s1 s2
        have ap1 : appM 116 2 40 H0 2 (.t nilS) p1 = some (rowP eCo b1 (out.take k), H1, n1) := ap1
        have bs : bsliceM 116 2 [.string ⟨#[]⟩, .slice none 0 0] 1 [(0, .t (.ag (eCo.enc co)))] n1 = some (.row n1 0 1 2, .cells 116 ((eCo.enc co).map .t)) := by rw [en]; rfl
        refine mc_runs ctx20 ?_
        simp -implicitDefEqProofs [S76c, ← hf, ← hout, ← hH0, s1, s2, ap1, l1, bs, ap2, ap3]
        refine Next.mk () trivial ?_
        unfold S76d
        rw [← hf, hnext]
        exact sub_row1 (k := b3) r3 (by omega) (by omega) (by simp -implicitDefEqProofs [ren_rowP, under_rowP, ren, under])
      ·rintro _ -
       refine mc_runs ctx20 ?_
       have r1 := RowAt.head' eCo 116 0 (coUp d (names d) (codesOf d) f (j + 1))
       simp -implicitDefEqProofs [S76d, ← hf, e1]
       exact sub_row1 (k := 0) r1 (by omega) (by omega) (by simp -implicitDefEqProofs [ren_rowP, under_rowP, ren, under])
     ·refine mc_runs ctx20 ?_
      have r1 := RowAt.head' eCo 116 0 (coUp d (names d) (codesOf d) (family (codesOf d)) f.length)
      simp -implicitDefEqProofs [S76b, ← hf, hF.len]
      rw [← hf] at r1
      exact Next.mk () trivial (sub_row1 (k := 0) r1 (by omega) (by omega) (by simp -implicitDefEqProofs [ren_rowP, under_rowP, ren, under]))
    ·rintro _ -
     refine mc_runs ctx20 ?_
     have tt := (RowAt.head' eCo 116 0 (codesL d)).toT
     have e : coUp d (names d) (codesOf d) (family (codesOf d)) f.length = codesL d := by rw [hf]; rfl
     have t2 := toT_tu2 (RowAt.head' eCo 116 0 (codesL d)) (iv 0)
     simp -implicitDefEqProofs [S76b, e, -oneOf, t2]
 ·have hE' := neq_zero hE
  have hres : codesT d = .tu [nilS, iv (checkE d)] := by unfold codesT; rw [if_pos hE]
  rw [hres]
  refine mc_runs ctx20 ?_
  simp -implicitDefEqProofs [tb20, q1, hE']
end Go.Proofs.Ytbiadmfmjnoecaa
