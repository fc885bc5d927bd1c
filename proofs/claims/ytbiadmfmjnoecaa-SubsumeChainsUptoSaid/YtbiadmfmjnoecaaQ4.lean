/-
  Codes of declared types, and their family: what the functions return.
  The family of codes: what the function returns.
  Names of codes, and their order: what the functions return.
-/
import Derived.Test.YtbiadmfmjnoecaaQ3
namespace Go.Proofs.Ytbiadmfmjnoecaa
set_option linter.unusedSimpArgs false
set_option linter.unusedVariables false
open Go Go.Abs
theorem fAnd_call {a b : T} {l m : List W} (ha : decB a = some l) (hb : decB b = some m) (hl : l.length ≤ 1000) (hm : m.length ≤ 1000) : CallT Try.prog G 89 [a, b] (· = fAnd l m) :=
 (rand_call ha hb hl hm).mono fun _ h => h.trans (congrArg encB (rand_eq _ _))
theorem rsub_call {a b : T} {l m : List W} (ha : decB a = some l) (hb : decB b = some m) (hl : l.length ≤ 1000) (hm : m.length ≤ 1000) : CallT Try.prog G 81 [a, b] (· = fSub l m) := by
 have ok : TblOK Try.prog G [(111, gB2 fMinus)] := .cons (gB2_ok rminus_call) .nil
 refine k_r02_Subset.runs (ok.ctx mixed) rfl ?_
 have e1 := gB2_eq (f := fMinus) ha hb hl hm
 have e2 : ((((normL (minusL l m)).length : Nat) : Int) == 0) = subL l m := by
  unfold subL
  cases h : (normL (minusL l m)).length <;> simp
  omega
 simp -implicitDefEqProofs [M_r02_Subset, e1, fMinus, fSub, encB, lenslM, e2]
theorem req_call {a b : T} {l m : List W} (ha : decB a = some l) (hb : decB b = some m) (hl : l.length ≤ 1000) (hm : m.length ≤ 1000) : CallT Try.prog G 130 [a, b] (· = fEq l m) := by
 have ok : TblOK Try.prog G [(81, gB2 fSub)] := .cons (gB2_ok rsub_call) .nil
 refine k_r02_Equal.runs (ok.ctx mixed) rfl ?_
 have e1 := gB2_eq (f := fSub) ha hb hl hm
 have e2 := gB2_eq (f := fSub) hb ha hm hl
 cases h : subL l m <;> simp -implicitDefEqProofs [M_r02_Equal, e1, e2, fSub, fEq, h]
theorem decI_treeS (l : List Int) : decI (treeS eInt l) = some l := by
 have : ∀ l : List Int, l.flatMap eInt.enc = l.map iv := by
  intro l
  induction l with
  | nil => rfl
  | cons x l ih => rw [List.flatMap_cons, ih]; rfl
 cases l with
 | nil => rfl
 | cons x r =>
  show decI (slT eInt (x :: r)) = _
  unfold slT
  rw [this]
  exact decI_sl (x :: r)
noncomputable def codeUp (low all : List Str) : Nat → List Int
 | 0 => []
 | j + 1 => codeUp low all j ++ (if hasS low (all.getD j emptyS) then [(j : Int)] else [])
theorem length_codeUp (low all : List Str) : ∀ j, (codeUp low all j).length ≤ j
 | 0 => by simp [codeUp]
 | j + 1 => by
  have := length_codeUp low all j
  simp only [codeUp, List.length_append]
  split <;> simp <;> omega
theorem mem_codeUp {low all : List Str} {n : Int} : ∀ {j : Nat}, n ∈ codeUp low all j ↔ ∃ i : Nat, i < j ∧ n = (i : Int) ∧ hasS low (all.getD i emptyS) = true
 | 0 => by simp [codeUp]
 | j + 1 => by
  simp only [codeUp, List.mem_append]
  rw [mem_codeUp]
  constructor
  ·rintro (⟨i, h1, h2, h3⟩ | h)
   ·exact ⟨i, by omega, h2, h3⟩
   ·split at h
    ·rename_i hh
     simp only [List.mem_singleton] at h
     exact ⟨j, by omega, h, hh⟩
    ·cases h
  ·rintro ⟨i, h1, h2, h3⟩
   by_cases e : i = j
   ·subst e
    right
    rw [if_pos h3]
    simp [h2]
   ·exact .inl ⟨i, by omega, h2, h3⟩
noncomputable def codeW (d : List TD) (all : List Str) (s : Str) : List W := normL (fill 64 (codeUp (below d s) all all.length) (codeUp (below d s) all all.length).length)
theorem len_codeW (d : List TD) (all : List Str) (s : Str) : (codeW d all s).length ≤ 64 := by
 unfold codeW
 have := length_normL (fill 64 (codeUp (below d s) all all.length) (codeUp (below d s) all all.length).length)
 rw [length_fill] at this
 exact this
theorem has_codeW {d : List TD} {all : List Str} (hl : all.length ≤ 256) (s : Str) (i : Nat) : hasL (codeW d all s) i = (decide (i < all.length) && hasS (below d s) (all.getD i emptyS)) := by
 unfold codeW
 have h1 : hasL (normL (fill 64 (codeUp (below d s) all all.length) (codeUp (below d s) all all.length).length)) i = hasL (fill 64 (codeUp (below d s) all all.length) (codeUp (below d s) all all.length).length) i := by
  unfold hasL; rw [wd_normL]
 rw [h1, has_fill 64 _ (fun n hn => by obtain ⟨k, hk, rfl, _⟩ := mem_codeUp.1 hn; omega), List.take_length, Bool.eq_iff_iff, List.any_eq_true, Bool.and_eq_true, decide_eq_true_eq]
 constructor
 ·rintro ⟨n, hn, e⟩
  obtain ⟨k, hk, rfl, h⟩ := mem_codeUp.1 hn
  have : k = i := by have e2 := of_decide_eq_true e; omega
  subst this
  exact ⟨hk, h⟩
 ·rintro ⟨h2, h3⟩
  exact ⟨(i : Int), mem_codeUp.2 ⟨i, h2, rfl, h3⟩, by simp⟩
noncomputable def gBelow : List T → Option T := g2 (tSl eTD) tStr fun d s => open Classical in if DOK d then some (treeS eStr (below d s)) else none
theorem below_ok : GOK Try.prog G 126 gBelow := g2_ok fun a b x y r ha hb hr => by
 obtain rfl : b = sv y := hb
 split at hr
 ·rename_i h; injection hr with hr; subst hr; exact below_call ha h y
 ·cases hr
theorem gBelow_eq {t : T} {d : List TD} (ht : IsS eTD t d) (hd : DOK d) (s : Str) : gBelow [t, sv s] = some (treeS eStr (below d s)) :=
 (g2_eq (τ := tSl eTD) (σ := tStr) ht rfl).trans (if_pos hd)
noncomputable def tb16 : Tbl := [(126, gBelow), (127, gAmong), (128, gI ofT)]
theorem ctx16 : Ctx Try.prog G (orc tb16) := (TblOK.cons below_ok (.cons among_ok (.cons (gI_ok rof_call) .nil))).ctx mixed
noncomputable def S103 (low all : List Str) (u : T) (j : Nat) : AState := ⟨[(9, .t (iv (j : Int))), (8, rowP eInt 0 (codeUp low all j)), (7, .t (treeS eStr low)), (1, .t u)], rowH eInt 3 0 (codeUp low all j), 1, 37⟩
theorem code_call {t u : T} {d : List TD} {all : List Str} (ht : IsS eTD t d) (hd : DOK d) (hu : IsS eStr u all) (hl : all.length ≤ 256) (s : Str) : CallT Try.prog G 103 [t, u, sv s] (· = encB (codeW d all s)) := by
 have hdl := hd.1
 have gb := gBelow_eq ht hd s
 have hbl := below_len (d := d) s
 have hz : eInt.z = 1 := rfl
 refine k_r04_code.call rfl ?_
 unfold M_r04_code
 refine mc_seq_runs ctx16 ?_
 simp -implicitDefEqProofs
 refine mc_seq_runs ctx16 ?_
 simp -implicitDefEqProofs [tb16, gb]
 refine mc_seq_runs ctx16 ?_
 simp -implicitDefEqProofs
 unfold codeW
 obtain ⟨low, hlow⟩ : ∃ low, low = below d s := ⟨_, rfl⟩
 rw [← hlow] at hbl ⊢
 have hL := IsS.tree eStr low
 refine mc_cut (fun _ : Unit => S103 low all u all.length) (fun _ => True) (fun _ => rfl) ?_ ?_
 ·refine mc_seq_runs ctx16 ?_
  simp -implicitDefEqProofs
  refine mc_block ?_
  refine mc_for (S103 low all u) all.length (fun _ => rfl) ?_ rfl ?_ ?_
  ·exact sub_row1 (k := 0) (RowAt.nil _ _ _ _) (by omega) (by omega) (by simp -implicitDefEqProofs [codeUp, rowP, ren, under])
  ·intro j hj
   refine mc_runs ctx16 ?_
   obtain ⟨x, hx⟩ : ∃ x, all[j]? = some x := ⟨_, List.getElem?_eq_getElem hj⟩
   have hgd : all.getD j emptyS = x := by simp [List.getD_eq_getElem?_getD, hx]
   have ia := ia_str hu hx
   have ga := gAmong_eq hL x (by unfold cap; omega)
   have r0 := RowAt.head' eInt 3 0 (codeUp low all j)
   have hcl := length_codeUp low all j
   have lp : ∀ (cs : List T) (c : T), loadM false 1 (rowH eInt 3 0 (codeUp low all j)) (.t (.pt (c :: cs))) = some (.t c) := fun cs c => rfl
   have e1 : IntKind.i64.wrap ((j : Int) + 1) = ((j + 1 : Nat) : Int) := wrap_nat (by omega) (by omega)
   have cs : codeUp low all (j + 1) = codeUp low all j ++ (if hasS low x then [(j : Int)] else []) := by simp only [codeUp, hgd]
   cases z : hasS low x with
   | false =>
    rw [z] at cs
    simp only [Bool.false_eq_true, if_false, List.append_nil] at cs
    simp -implicitDefEqProofs [S103, hj, hu.len, ia, lp, tb16, ga, z, e1]
    rw [cs]
    exact sub_row1 (k := 0) r0 (by omega) (by omega) (by simp -implicitDefEqProofs [ren_rowP, under_rowP, ren, under])
   | true =>
    rw [z] at cs
    simp only [if_true] at cs
    have bs : bsliceM 3 1 [.int .i64 0] 1 [(0, .t (iv (j : Int)))] 1 = some (.row 1 0 1 1, .cells 3 [.t (iv (j : Int))]) := rfl
    obtain ⟨b2, H2, n2, ap2, r2, ne2, _⟩ := app_some (e := eInt) (ty := 3) (by' := 8) (nx := 2) (m := [(j : Int)]) (r0.cons (k := 1) (r := .cells 3 [.t (iv (j : Int))]) (by omega)) (src_one (b := 1) (ty := 3) _ (by simp [eInt])) (by simp; omega) (by simp; omega)
    rw [hz] at ap2
    simp -implicitDefEqProofs [S103, hj, hu.len, ia, lp, tb16, ga, z, bs, ap2, e1]
    rw [cs]
    exact sub_row1 (k := b2) r2 (by omega) (by omega) (by simp -implicitDefEqProofs [ren_rowP, under_rowP, ren, under])
  ·refine mc_runs ctx16 ?_
   have r1 := RowAt.head' eInt 3 0 (codeUp low all all.length)
   simp -implicitDefEqProofs [S103, hu.len]
   exact Next.mk () trivial (sub_row1 (k := 0) r1 (by omega) (by omega) (by simp -implicitDefEqProofs [ren_rowP, under_rowP, ren, under]))
 ·rintro _ -
  refine mc_runs ctx16 ?_
  obtain ⟨l, hl'⟩ : ∃ l, l = codeUp low all all.length := ⟨_, rfl⟩
  have hcl := length_codeUp low all all.length
  have hin : l.all inR = true := by
   rw [List.all_eq_true]
   intro n hn
   rw [hl'] at hn
   obtain ⟨k, hk, rfl, _⟩ := mem_codeUp.1 hn
   simp only [inR, Bool.and_eq_true, decide_eq_true_eq]
   omega
  have ho : ofT l = .tu [encB (normL (fill 64 l l.length)), .v (.int .i64 0)] := by unfold ofT; rw [if_pos hin]
  have go := gI_eq (f := ofT) (decI_treeS l) (by rw [hl']; omega)
  have tt := (RowAt.head' eInt 3 0 l).toT
  simp -implicitDefEqProofs [S103, ← hl', tt, tb16, go, ho]
def eB : Enc (List W) := ⟨1, fun l => [encB l], fun _ => rfl, by omega, fun a b h => by
 injection h with h
 have := decB_encB a
 rw [h, decB_encB] at this
 injection this with this
 exact this.symm⟩
theorem ia_B {t : T} {l : List (List W)} (h : IsS eB t l) {i : Nat} {x : List W} (hx : l[i]? = some x) : iaddrM 1 (.t t) (.t (iv (i : Int))) = some (.t (.pt (encB x :: rest eB l i))) := h.iaddr hx .i64
def tB : Ty (List W) := ⟨fun t l => t = encB l, fun t a b h h' => by
 have := decB_encB a
 rw [← h, h', decB_encB] at this
 injection this with this
 exact this.symm⟩
noncomputable def tb17 : Tbl := [(118, gB2 fSame), (89, gB2 fAnd), (130, gB2 fEq), (81, gB2 fSub), (131, gHas)]
theorem tb17_ok : TblOK Try.prog G tb17 := .cons (gB2_ok same_call) (.cons (gB2_ok fAnd_call) (.cons (gB2_ok req_call) (.cons (gB2_ok rsub_call) (.cons (gHas_ok rhas_call rhas_neg) .nil))))
theorem ctx17 : Ctx Try.prog G (orc tb17) := tb17_ok.ctx mixed
theorem same_B (x y : List W) (hx : x.length ≤ 1000) (hy : y.length ≤ 1000) : gB2 fSame [encB x, encB y] = some (bv (x == y)) := gB2_eq (decB_encB x) (decB_encB y) hx hy
def inB (l : List (List W)) (b : List W) : Bool := l.any fun x => x == b
def S129 (t : T) (b : List W) (j : Nat) : AState := ⟨[(5, .t (iv (j : Int))), (1, .t (encB b)), (0, .t t)], [], 0, 18⟩
theorem in_call {t : T} {l : List (List W)} (ht : IsS eB t l) (hl : l.length ≤ cap) (hs : ∀ x ∈ l, x.length ≤ 1000) {b : List W} (hb : b.length ≤ 1000) : CallT Try.prog G 129 [t, encB b] (· = bv (inB l b)) := by
 unfold cap at hl
 refine k_r04_in.call rfl ?_
 unfold M_r04_in
 refine mc_seq_runs ctx17 ?_
 simp -implicitDefEqProofs
 refine mc_cut (fun _ : Unit => S129 t b l.length) (fun _ => inB l b = false) (fun _ => rfl) ?_ ?_
 ·refine mc_seq_runs ctx17 ?_
  simp -implicitDefEqProofs
  refine mc_block ?_
  refine mc_while (S129 t b) (fun k => l.length - k) (fun k => k ≤ l.length ∧ ∀ (i : Nat) x, i < k → l[i]? = some x → (x == b) = false) 0 (fun _ => rfl) ⟨Nat.zero_le _, fun i s h => by omega⟩ ?_ rfl ?_
  ·refine sub_forget rfl rfl ?_ ?_ <;> simp -implicitDefEqProofs [S129]
  ·rintro k ⟨hk, hg⟩
   refine mc_runs ctx17 ?_
   by_cases hkl : k < l.length
   ·obtain ⟨x, hx⟩ : ∃ x, l[k]? = some x := ⟨_, List.getElem?_eq_getElem hkl⟩
    have ia := ia_B ht hx
    have gs := same_B x b (hs x (List.mem_of_getElem? hx)) hb
    have e1 : IntKind.i64.wrap ((k : Int) + 1) = ((k + 1 : Nat) : Int) := wrap_nat (by omega) (by omega)
    cases z : x == b with
    | true =>
     have hr : inB l b = true := by
      unfold inB
      rw [List.any_eq_true]
      exact ⟨x, List.mem_of_getElem? hx, z⟩
     rw [z] at gs
     simp -implicitDefEqProofs [S129, hkl, ht.len, ia, loadM, tb17, gs, hr]
    | false =>
     rw [z] at gs
     simp -implicitDefEqProofs [S129, hkl, ht.len, ia, loadM, tb17, gs, e1]
     refine Next.mk (k + 1) ⟨⟨by omega, fun i y hi hy => ?_⟩, by omega⟩ (sub_forget rfl rfl (by simp -implicitDefEqProofs [S129]) (by simp -implicitDefEqProofs [S129]))
     by_cases e : i = k
     ·subst e; rw [hx] at hy; injection hy with hy; subst hy; simpa using z
     ·simpa using hg i y (by omega) hy
   ·have hk' : k = l.length := by omega
    simp -implicitDefEqProofs [S129, hkl, ht.len]
    refine Next.mk () ?_ (sub_forget rfl rfl (by simp -implicitDefEqProofs [S129, hk']) (by simp -implicitDefEqProofs [S129]))
    unfold inB
    rw [List.any_eq_false]
    intro x hx
    obtain ⟨i, hi, e⟩ := List.getElem_of_mem hx
    rw [hg i x (by omega) (by rw [List.getElem?_eq_getElem hi, e])]
    simp
 ·rintro _ hr
  refine mc_runs ctx17 ?_
  simp -implicitDefEqProofs [S129, hr]
def andN (x y : List W) : List W := normL (andL x y)
def famStep (i : Nat) (l : List (List W)) (k : Nat) : List (List W) :=
 if l.length ≤ 256 then (if (andN (l.getD i []) (l.getD k [])).length = 0 ∨ inB l (andN (l.getD i []) (l.getD k [])) = true then l else l ++ [andN (l.getD i []) (l.getD k [])]) else l
def famIn (i : Nat) (l : List (List W)) : Nat → List (List W)
 | 0 => l
 | k + 1 => famStep i (famIn i l k) k
def famF : Nat → Nat → List (List W) → List (List W)
 | 0, _, l => l
 | f + 1, i, l => if i < l.length ∧ l.length ≤ 256 then famF f (i + 1) (famIn i l i) else l
def family (codes : List (List W)) : List (List W) := famF 300 0 codes
structure Fam (l m : List (List W)) : Prop where
 len : l.length ≤ 257 → m.length ≤ 257
 size : (∀ x ∈ l, x.length ≤ 64) → ∀ x ∈ m, x.length ≤ 64
 pre : ∃ r, m = l ++ r
theorem Fam.refl (l : List (List W)) : Fam l l := ⟨fun h => h, fun h => h, [], by simp⟩
theorem Fam.trans {l m n : List (List W)} (h : Fam l m) (h' : Fam m n) : Fam l n := by
 obtain ⟨r, e⟩ := h.pre
 obtain ⟨r', e'⟩ := h'.pre
 exact ⟨fun x => h'.len (h.len x), fun x => h'.size (h.size x), r ++ r', by rw [e', e, List.append_assoc]⟩
theorem len_andN (x y : List W) : (andN x y).length ≤ x.length := by
 unfold andN
 have h1 := length_normL (andL x y)
 have h2 : (andL x y).length ≤ x.length := by simp [andL]; omega
 omega
theorem famStep_fam (i : Nat) (l : List (List W)) (k : Nat) : Fam l (famStep i l k) := by
 unfold famStep
 split
 ·rename_i hl
  split
  ·exact Fam.refl l
  ·refine ⟨fun _ => by simp; omega, fun hs x hx => ?_, _, rfl⟩
   rcases List.mem_append.1 hx with hx | hx
   ·exact hs x hx
   ·simp only [List.mem_singleton] at hx
    subst hx
    refine Nat.le_trans (len_andN _ _) ?_
    by_cases hi : i < l.length
    ·have e : l.getD i [] = l[i] := by simp [List.getD_eq_getElem?_getD, hi]
     rw [e]
     exact hs _ (List.getElem_mem hi)
    ·have e : l.getD i [] = [] := by simp [List.getD_eq_getElem?_getD, hi]
     rw [e]; simp
 ·exact Fam.refl l
theorem famIn_fam (i : Nat) (l : List (List W)) : ∀ k, Fam l (famIn i l k)
 | 0 => Fam.refl l
 | k + 1 => (famIn_fam i l k).trans (famStep_fam i _ k)
theorem famIn_stop {i : Nat} {l : List (List W)} {k : Nat} (h : ¬ (famIn i l k).length ≤ 256) : ∀ n, famIn i l (k + n) = famIn i l k
 | 0 => rfl
 | n + 1 => by
  have ih := famIn_stop h n
  show famStep i (famIn i l (k + n)) (k + n) = _
  rw [ih]
  unfold famStep
  rw [if_neg h]
theorem famF_fam : ∀ (f i : Nat) (l : List (List W)), Fam l (famF f i l)
 | 0, i, l => Fam.refl l
 | f + 1, i, l => by
  unfold famF
  split
  ·exact (famIn_fam i l i).trans (famF_fam f (i + 1) _)
  ·exact Fam.refl l
noncomputable def gIn : List T → Option T := g2 (tSl eB) tB fun l b => open Classical in if l.length ≤ cap ∧ (∀ x ∈ l, x.length ≤ 1000) ∧ b.length ≤ 1000 then some (bv (inB l b)) else none
theorem in_ok : GOK Try.prog G 129 gIn := g2_ok fun a b x y r ha hb hr => by
 obtain rfl : b = encB y := hb
 split at hr
 ·rename_i h; injection hr with hr; subst hr; exact in_call ha h.1 h.2.1 h.2.2
 ·cases hr
theorem gIn_eq {t : T} {l : List (List W)} (ht : IsS eB t l) (hl : l.length ≤ cap) (hs : ∀ x ∈ l, x.length ≤ 1000) {b : List W} (hb : b.length ≤ 1000) : gIn [t, encB b] = some (bv (inB l b)) :=
 (g2_eq (τ := tSl eB) (σ := tB) (y := b) ht rfl).trans (if_pos ⟨hl, hs, hb⟩)
noncomputable def tb18 : Tbl := [(89, gB2 fAnd), (129, gIn)]
theorem ctx18 : Ctx Try.prog G (orc tb18) := (TblOK.cons (gB2_ok fAnd_call) (.cons in_ok .nil)).ctx mixed
def S104 (a : Nat × List (List W)) : AState := ⟨[(4, .t (iv (a.1 : Int))), (3, rowP eB 0 a.2)], rowH eB 101 0 a.2, 1, 54⟩
def S104e (l : List (List W)) : AState := ⟨[(3, rowP eB 0 l)], rowH eB 101 0 l, 1, 54⟩
def S104b (i : Nat) (l : List (List W)) (k : Nat) : AState := ⟨[(5, .t (iv (k : Int))), (4, .t (iv (i : Int))), (3, rowP eB 0 (famIn i l k))], rowH eB 101 0 (famIn i l k), 1, 54⟩
theorem family_call {t : T} {codes : List (List W)} (ht : IsS eB t codes) (h0 : 0 < codes.length) (hl : codes.length ≤ 256) (hs : ∀ x ∈ codes, x.length ≤ 64) : CallT Try.prog G 104 [t] (· = treeS eB (family codes)) := by
 have hz : eB.z = 1 := rfl
 refine k_r04_family.call rfl ?_
 unfold M_r04_family
 refine mc_seq_runs ctx18 ?_
 simp -implicitDefEqProofs
 have bs0 : bsliceM 101 1 [.slice none 0 0] 0 [] 0 = some (.row 0 0 0 1, .cells 101 []) := rfl
 have ap0 : appM 101 1 24 [(0, .cells 101 [])] 1 (.row 0 0 0 1) (.t t) = some (.row 1 0 codes.length 1, [(1, rowOf eB 101 codes)], 2) := by
  have hsrc := src_tree (H := [(0, Row.cells 101 [])]) ht
  rw [hz] at hsrc
  have b1 : codes.length * 24 ≤ 140737488355328 := by omega
  have b2 : codes.length ≤ 9223372036854775807 := by omega
  simp [appM, hsrc, rowOf, b1, b2]
 refine mc_seq_runs ctx18 ?_
 simp -implicitDefEqProofs [bs0, ap0]
 refine mc_cut (fun _ : Unit => S104e (family codes)) (fun _ => True) (fun _ => rfl) ?_ ?_
 ·refine mc_seq_runs ctx18 ?_
  simp -implicitDefEqProofs
  refine mc_block ?_
  refine mc_while S104 (fun a => 300 - a.1) (fun a => a.1 ≤ 257 ∧ Fam codes a.2 ∧ famF (300 - a.1) a.1 a.2 = family codes) (0, codes) (fun _ => rfl) ⟨by simp, Fam.refl _, rfl⟩ ?_ rfl ?_
  ·refine sub_row1 (l := codes) (k := 1) (.inr (by simp)) (by omega) (by omega) ?_
   cases codes with
   | nil => simp at h0
   | cons x r => simp -implicitDefEqProofs [rowP, ren, under, eB]
  ·rintro ⟨i, l⟩ ⟨hi, hf, he⟩
   simp only at hi hf he
   have hll : l.length ≤ 257 := hf.len (by omega)
   have hsl := hf.size hs
   have r0 := RowAt.head' eB 101 0 l
   by_cases hc : i < l.length ∧ l.length ≤ 256
   ·have hc1 := hc.1
    have hc2 := hc.2
    have hc2' : (l.length : Int) ≤ 256 := by omega
    refine mc_seq_runs ctx18 ?_
    simp -implicitDefEqProofs [S104, len_rowP, hc1, hc2, hc2']
    refine mc_cut (fun _ : Unit => S104 (i, famIn i l i)) (fun _ => True) (fun _ => rfl) ?_ ?_
    ·refine mc_block ?_
     refine mc_seq_runs ctx18 ?_
     simp -implicitDefEqProofs
     refine mc_block ?_
     refine mc_while (S104b i l) (fun k => i - k) (fun k => k ≤ i) 0 (fun _ => rfl) (Nat.zero_le _) ?_ rfl ?_
     ·exact sub_row1 (k := 0) r0 (by omega) (by omega) (by simp -implicitDefEqProofs [famIn, ren_rowP, under_rowP, ren, under])
     ·intro k hk
      have hfk := famIn_fam i l k
      have hlk : (famIn i l k).length ≤ 257 := hfk.len hll
      have hsk := hfk.size hsl
      have rk := RowAt.head' eB 101 0 (famIn i l k)
      have tt := rk.toT
      refine mc_runs ctx18 ?_
      by_cases hki : k < i
      ·by_cases hc3 : (famIn i l k).length ≤ 256
       ·have hc3' : ((famIn i l k).length : Int) ≤ 256 := by omega
        obtain ⟨r, hr⟩ := hfk.pre
        have hle : l.length ≤ (famIn i l k).length := by rw [hr]; simp
        obtain ⟨x, hx⟩ : ∃ x, (famIn i l k)[i]? = some x := ⟨_, List.getElem?_eq_getElem (by omega)⟩
        obtain ⟨y, hy⟩ : ∃ y, (famIn i l k)[k]? = some y := ⟨_, List.getElem?_eq_getElem (by omega)⟩
        have hxl := hsk x (List.mem_of_getElem? hx)
        have hyl := hsk y (List.mem_of_getElem? hy)
        have ix := iaddr_rowP (e := eB) (b := 0) hx .i64
        have iy := iaddr_rowP (e := eB) (b := 0) hy .i64
        have lx := rk.load (off := 0) (c := encB x) hx rfl
        have ly := rk.load (off := 0) (c := encB y) hy rfl
        rw [hz, Nat.mul_one] at ix iy
        rw [hz, Nat.mul_one, Nat.add_zero] at lx ly
        have ga : gB2 fAnd [encB x, encB y] = some (encB (andN x y)) := gB2_eq (decB_encB x) (decB_encB y) (by omega) (by omega)
        have hbl : (andN x y).length ≤ 1000 := Nat.le_trans (len_andN x y) (by omega)
        have gi := gIn_eq (IsS.tree eB (famIn i l k)) (by unfold cap; omega) (fun z hz => Nat.le_trans (hsk z hz) (by omega)) hbl
        have e1 : IntKind.i64.wrap ((k : Int) + 1) = ((k + 1 : Nat) : Int) := wrap_nat (by omega) (by omega)
        have le : lenslM (.t (encB (andN x y))) = some (.t (iv ((andN x y).length : Int))) := rfl
        have fs : famIn i l (k + 1) = if (andN x y).length = 0 ∨ inB (famIn i l k) (andN x y) = true then famIn i l k else famIn i l k ++ [andN x y] := by
         show famStep i (famIn i l k) k = _
         unfold famStep
         have e3 : (famIn i l k).getD i [] = x := by simp [List.getD_eq_getElem?_getD, hx]
         have e4 : (famIn i l k).getD k [] = y := by simp [List.getD_eq_getElem?_getD, hy]
         rw [if_pos hc3, e3, e4]
        by_cases z1 : (andN x y).length = 0
        ·have z1' : ¬ (0 : Int) < ((andN x y).length : Int) := by omega
         have z1n : ¬ 0 < (andN x y).length := by omega
         rw [if_pos (.inl z1)] at fs
         simp -implicitDefEqProofs [S104b, hki, len_rowP, hc3, hc3', ix, iy, lx, ly, tb18, ga, le, z1', z1n, e1]
         refine Next.mk (k + 1) ⟨by omega, by omega⟩ ?_
         unfold S104b
         rw [fs]
         exact sub_row1 (k := 0) rk (by omega) (by omega) (by simp -implicitDefEqProofs [ren_rowP, under_rowP, ren, under])
        ·have z1' : (0 : Int) < ((andN x y).length : Int) := by omega
         have z1n : 0 < (andN x y).length := by omega
         cases z2 : inB (famIn i l k) (andN x y) with
         | true =>
          rw [if_pos (.inr z2)] at fs
          simp -implicitDefEqProofs [S104b, hki, len_rowP, hc3, hc3', ix, iy, lx, ly, tb18, ga, le, z1', z1n, tt, gi, z2, e1]
          refine Next.mk (k + 1) ⟨by omega, by omega⟩ ?_
          unfold S104b
          rw [fs]
          exact sub_row1 (k := 0) rk (by omega) (by omega) (by simp -implicitDefEqProofs [ren_rowP, under_rowP, ren, under])
         | false =>
          rw [if_neg (by rw [z2]; simp [z1])] at fs
          have bs : bsliceM 101 1 [.slice none 0 0] 1 [(0, .t (encB (andN x y)))] 1 = some (.row 1 0 1 1, .cells 101 [.t (encB (andN x y))]) := rfl
          obtain ⟨b2, H2, n2, ap2, r2, ne2, _⟩ := app_some (e := eB) (ty := 101) (by' := 24) (nx := 2) (m := [andN x y]) (rk.cons (k := 1) (r := .cells 101 [.t (encB (andN x y))]) (by omega)) (src_one (b := 1) (ty := 101) _ (by simp [eB])) (by simp; omega) (by simp; omega)
          rw [hz] at ap2
          simp -implicitDefEqProofs [S104b, hki, len_rowP, hc3, hc3', ix, iy, lx, ly, tb18, ga, le, z1', z1n, tt, gi, z2, bs, ap2, e1]
          refine Next.mk (k + 1) ⟨by omega, by omega⟩ ?_
          unfold S104b
          rw [fs]
          exact sub_row1 (k := b2) r2 (by omega) (by omega) (by simp -implicitDefEqProofs [ren_rowP, under_rowP, ren, under])
       ·have hc3' : ¬ ((famIn i l k).length : Int) ≤ 256 := by omega
        have hst := famIn_stop hc3 (i - k)
        rw [show k + (i - k) = i by omega] at hst
        simp -implicitDefEqProofs [S104b, hki, len_rowP, hc3, hc3']
        refine Next.mk () trivial ?_
        unfold S104
        rw [hst]
        exact sub_row1 (k := 0) rk (by omega) (by omega) (by simp -implicitDefEqProofs [ren_rowP, under_rowP, ren, under])
      ·obtain rfl : i = k := by omega
       simp -implicitDefEqProofs [S104b, hki]
       refine Next.mk () trivial ?_
       unfold S104
       exact sub_row1 (k := 0) rk (by omega) (by omega) (by simp -implicitDefEqProofs [ren_rowP, under_rowP, ren, under])
    ·rintro _ -
     refine mc_runs ctx18 ?_
     have rk := RowAt.head' eB 101 0 (famIn i l i)
     have e1 : IntKind.i64.wrap ((i : Int) + 1) = ((i + 1 : Nat) : Int) := wrap_nat (by omega) (by omega)
     simp -implicitDefEqProofs [S104, e1]
     refine Next.mk (i + 1, famIn i l i) ⟨⟨by simp only; omega, hf.trans (famIn_fam i l i), ?_⟩, by simp only; omega⟩ (sub_row1 (k := 0) rk (by omega) (by omega) (by simp -implicitDefEqProofs [ren_rowP, under_rowP, ren, under]))
     rw [← he, show 300 - i = (300 - (i + 1)) + 1 by omega]
     simp only [famF, if_pos hc]
   ·have hfin : family codes = l := by
     rw [← he]
     cases hh : 300 - i with
     | zero => rfl
     | succ f => simp only [famF, if_neg hc]
    refine mc_runs ctx18 ?_
    by_cases hc1 : i < l.length
    ·have hc2 : ¬ l.length ≤ 256 := fun h => hc ⟨hc1, h⟩
     have hc2' : ¬ (l.length : Int) ≤ 256 := by omega
     simp -implicitDefEqProofs [S104, len_rowP, hc1, hc2, hc2']
     refine Next.mk () trivial ?_
     unfold S104e
     rw [hfin]
     exact sub_row1 (k := 0) r0 (by omega) (by omega) (by simp -implicitDefEqProofs [ren_rowP, under_rowP, ren, under])
    ·simp -implicitDefEqProofs [S104, len_rowP, hc1]
     refine Next.mk () trivial ?_
     unfold S104e
     rw [hfin]
     exact sub_row1 (k := 0) r0 (by omega) (by omega) (by simp -implicitDefEqProofs [ren_rowP, under_rowP, ren, under])
 ·rintro _ -
  refine mc_runs ctx18 ?_
  have tt := (RowAt.head' eB 101 0 (family codes)).toT
  simp -implicitDefEqProofs [S104e, tt]
theorem frz_row {α : Type} {e : Enc α} {ty : Nat} {H : Heap} {b : Nat} {l : List α} (h : RowAt e ty H b l) : frzP H [b] (rowP e b l) = .t (treeS e l) := by
 unfold frzP
 rw [h.toT]
 cases l <;> simp [lentS]
theorem frz_t (H : Heap) (F : List Nat) (x : T) : frzP H F (.t x) = .t x := by simp [frzP]
noncomputable def gMaximal : List T → Option T := g2 (tSl eTD) (tSl eStr) fun d l => open Classical in if Good d ∧ l.length ≤ cap then some (treeS eStr (maximal d l)) else none
theorem maximal_ok : GOK Try.prog G 132 gMaximal := g2_ok fun a b x y r ha hb hr => by
 split at hr
 ·rename_i h; injection hr with hr; subst hr; exact maximal_call ha h.1 hb h.2
 ·cases hr
theorem gMaximal_eq {t u : T} {d : List TD} {l : List Str} (ht : IsS eTD t d) (hg : Good d) (hu : IsS eStr u l) (hl : l.length ≤ cap) : gMaximal [t, u] = some (treeS eStr (maximal d l)) :=
 (g2_eq (τ := tSl eTD) (σ := tSl eStr) ht hu).trans (if_pos ⟨hg, hl⟩)
noncomputable def tb19 : Tbl := [(130, gB2 fEq), (131, gHas), (132, gMaximal)]
theorem ctx19 : Ctx Try.prog G (orc tb19) := (TblOK.cons (gB2_ok req_call) (.cons (gHas_ok rhas_call rhas_neg) (.cons maximal_ok .nil))).ctx mixed
def eqS (x y : List W) : Bool := subL x y && subL y x
def partUp (all : List Str) (b : List W) : Nat → List Str
 | 0 => []
 | j + 1 => partUp all b j ++ (if hasL b j then [all.getD j emptyS] else [])
theorem length_partUp (all : List Str) (b : List W) : ∀ j, (partUp all b j).length ≤ j
 | 0 => by simp [partUp]
 | j + 1 => by
  have := length_partUp all b j
  simp only [partUp, List.length_append]
  split <;> simp <;> omega
theorem mem_partUp {all : List Str} {b : List W} {u : Str} : ∀ {j : Nat}, j ≤ all.length → u ∈ partUp all b j → u ∈ all
 | 0, _, h => by simp [partUp] at h
 | j + 1, hj, h => by
  simp only [partUp] at h
  rcases List.mem_append.1 h with h | h
  ·exact mem_partUp (by omega) h
  ·split at h
   ·simp only [List.mem_singleton] at h
    subst h
    simp [List.getD_eq_getElem?_getD, show j < all.length by omega]
   ·cases h
abbrev amp : Str := ⟨#[38]⟩
def joinUp (l : List Str) : Nat → Str
 | 0 => emptyS
 | j + 1 => (if 0 < j then joinUp l j ++ amp else joinUp l j) ++ l.getD j emptyS
theorem size_joinUp (l : List Str) (hs : ∀ s ∈ l, s.size ≤ cap) : ∀ j, j ≤ l.length → (joinUp l j).size ≤ j * (cap + 1)
 | 0, _ => by simp [joinUp]; rfl
 | j + 1, hj => by
  have ih := size_joinUp l hs j (by omega)
  have h1 : (l.getD j emptyS).size ≤ cap := by
   have e : l.getD j emptyS = l[j] := by simp [List.getD_eq_getElem?_getD, show j < l.length by omega]
   rw [e]; exact hs _ (List.getElem_mem _)
  simp only [joinUp]
  rw [Nat.succ_mul]
  split
  ·simp only [ByteArray.size_append]
   have : amp.size = 1 := rfl
   omega
  ·simp only [ByteArray.size_append]
   omega
noncomputable def nameOf (d : List TD) (all : List Str) (codes : List (List W)) (b : List W) : Str :=
 if codes.findIdx (fun x => eqS x b) < codes.length then all.getD (codes.findIdx fun x => eqS x b) emptyS
 else joinUp (maximal d (partUp all b all.length)) (maximal d (partUp all b all.length)).length
def AllOff (codes : List (List W)) (b : List W) : Prop := codes.findIdx (fun x => eqS x b) = codes.length
def S105 (t u c : T) (all : List Str) (b : List W) (j : Nat) : AState := ⟨[(10, .t (iv (j : Int))), (9, rowP eStr 0 (partUp all b j)), (3, .t (encB b)), (2, .t c), (1, .t u), (0, .t t)], rowH eStr 9 0 (partUp all b j), 1, 59⟩
def S105b (l : List Str) (j : Nat) : AState := ⟨[(12, .t (iv (j : Int))), (11, .t (sv (joinUp l j))), (9, .t (treeS eStr l))], [], 1, 59⟩
theorem name4_call {t u c : T} {d : List TD} {all : List Str} {codes : List (List W)} (ht : IsS eTD t d) (hg : Good d) (hu : IsS eStr u all) (hc : IsS eB c codes) (hlen : codes.length = all.length) (hl : all.length ≤ 256)
  (hsz : ∀ s ∈ all, s.size ≤ cap) (hcs : ∀ x ∈ codes, x.length ≤ 64) {b : List W} (hb : b.length ≤ 64) : CallT Try.prog G 105 [t, u, c, encB b] (· = sv (nameOf d all codes b)) := by
 have hz : eStr.z = 1 := rfl
 refine k_r04_name.call rfl ?_
 unfold M_r04_name
 refine mc_seq_runs ctx19 ?_
 simp -implicitDefEqProofs
 refine mc_seq_runs ctx19 ?_
 simp -implicitDefEqProofs
 refine mc_cut (fun _ : Unit => S105 t u c all b all.length) (fun _ => AllOff codes b) (fun _ => rfl) ?_ ?_
 ·refine mc_seq_runs ctx19 ?_
  simp -implicitDefEqProofs
  refine mc_block ?_
  refine mc_while (S105 t u c all b) (fun k => all.length - k) (fun k => k ≤ codes.findIdx fun x => eqS x b) 0 (fun _ => rfl) (Nat.zero_le _) ?_ rfl ?_
  ·exact sub_row1 (k := 0) (RowAt.nil _ _ _ _) (by omega) (by omega) (by simp -implicitDefEqProofs [partUp, rowP, ren, under])
  ·intro j hj
   have hle := findIdx_le (fun x => eqS x b) codes
   have r0 := RowAt.head' eStr 9 0 (partUp all b j)
   refine mc_runs ctx19 ?_
   by_cases hjl : j < all.length
   ·obtain ⟨x, hx⟩ : ∃ x, codes[j]? = some x := ⟨_, List.getElem?_eq_getElem (by omega)⟩
    obtain ⟨s, hs⟩ : ∃ s, all[j]? = some s := ⟨_, List.getElem?_eq_getElem hjl⟩
    have hgd : all.getD j emptyS = s := by simp [List.getD_eq_getElem?_getD, hs]
    have ia := ia_B hc hx
    have ib := ia_str hu hs
    have ge : gB2 fEq [encB x, encB b] = some (bv (eqS x b)) := gB2_eq (decB_encB x) (decB_encB b) (Nat.le_trans (hcs x (List.mem_of_getElem? hx)) (by omega)) (by omega)
    have gh := gHas_nat (decB_encB b) j (by omega)
    have e1 : IntKind.i64.wrap ((j : Int) + 1) = ((j + 1 : Nat) : Int) := wrap_nat (by omega) (by omega)
    have hpl := length_partUp all b j
    have lp : ∀ (cs : List T) (c : T), loadM false 1 (rowH eStr 9 0 (partUp all b j)) (.t (.pt (c :: cs))) = some (.t c) := fun cs c => rfl
    cases z1 : eqS x b with
    | true =>
     have hidx : codes.findIdx (fun x => eqS x b) = j := by
      rcases Nat.lt_or_ge j (codes.findIdx fun x => eqS x b) with h | h
      ·have := findIdx_not (p := fun x => eqS x b) h hx
       rw [z1] at this; cases this
      ·omega
     have hn : nameOf d all codes b = s := by
      unfold nameOf
      rw [hidx, if_pos (by omega), hgd]
     rw [z1] at ge
     simp -implicitDefEqProofs [S105, hjl, hu.len, ia, lp, tb19, ge, ib, hn]
    | false =>
     have hlt : j < codes.findIdx fun x => eqS x b := by
      rcases Nat.lt_or_ge j (codes.findIdx fun x => eqS x b) with h | h
      ·exact h
      ·have hej : codes.findIdx (fun x => eqS x b) = j := by omega
       obtain ⟨y, hy, hp⟩ := findIdx_hit (p := fun x => eqS x b) (l := codes) (by omega)
       rw [hej, hx] at hy
       injection hy with hy
       subst hy
       rw [z1] at hp; cases hp
     rw [z1] at ge
     have ps : partUp all b (j + 1) = partUp all b j ++ (if hasL b j then [s] else []) := by simp only [partUp, hgd]
     cases z2 : hasL b j with
     | false =>
      rw [z2] at ps gh
      simp only [Bool.false_eq_true, if_false, List.append_nil] at ps
      simp -implicitDefEqProofs [S105, hjl, hu.len, ia, lp, tb19, ge, gh, e1]
      refine Next.mk (j + 1) ⟨by omega, by omega⟩ ?_
      unfold S105
      rw [ps]
      exact sub_row1 (k := 0) r0 (by omega) (by omega) (by simp -implicitDefEqProofs [ren_rowP, under_rowP, ren, under])
     | true =>
      rw [z2] at ps gh
      simp only [if_true] at ps
      have bs : bsliceM 9 1 [.string ⟨#[]⟩] 1 [(0, .t (sv s))] 1 = some (.row 1 0 1 1, .cells 9 [.t (sv s)]) := rfl
      obtain ⟨b2, H2, n2, ap2, r2, ne2, _⟩ := app_some (e := eStr) (ty := 9) (by' := 16) (nx := 2) (m := [s]) (r0.cons (k := 1) (r := .cells 9 [.t (sv s)]) (by omega)) (src_one (b := 1) (ty := 9) _ (by simp [eStr])) (by simp; omega) (by simp; omega)
      rw [hz] at ap2
      simp -implicitDefEqProofs [S105, hjl, hu.len, ia, lp, tb19, ge, gh, ib, bs, ap2, e1]
      refine Next.mk (j + 1) ⟨by omega, by omega⟩ ?_
      unfold S105
      rw [ps]
      exact sub_row1 (k := b2) r2 (by omega) (by omega) (by simp -implicitDefEqProofs [ren_rowP, under_rowP, ren, under])
   ·have hje : j = all.length := by omega
    subst hje
    simp -implicitDefEqProofs [S105, hu.len]
    exact Next.mk () (by show codes.findIdx (fun x => eqS x b) = codes.length; omega) (sub_row1 (k := 0) r0 (by omega) (by omega) (by simp -implicitDefEqProofs [ren_rowP, under_rowP, ren, under]))
 ·rintro _ hnone
  have hnone : codes.findIdx (fun x => eqS x b) = codes.length := hnone
  have hn : nameOf d all codes b = joinUp (maximal d (partUp all b all.length)) (maximal d (partUp all b all.length)).length := by
   unfold nameOf
   rw [if_neg (by omega)]
  rw [hn]
  obtain ⟨p, hp⟩ : ∃ p, p = partUp all b all.length := ⟨_, rfl⟩
  have hpl := length_partUp all b all.length
  have hpm : ∀ s ∈ p, s ∈ all := fun s hs => mem_partUp (Nat.le_refl _) (hp ▸ hs)
  rw [← hp] at hpl ⊢
  obtain ⟨l, hl2⟩ : ∃ l, l = maximal d p := ⟨_, rfl⟩
  have hll : l.length ≤ 256 := by
   rw [hl2]
   unfold maximal
   have h1 := length_maxUp d (decl d p) (decl d p).length
   have h2 : (decl d p).length ≤ p.length := by rw [← declUp_all]; exact length_declUp d p p.length
   omega
  have hls : ∀ s ∈ l, s.size ≤ cap := fun s hs => hsz s (hpm s (mem_maximal (by rw [hl2] at hs; exact hs)).1)
  have gm := gMaximal_eq ht hg (IsS.tree eStr p) (by unfold cap; omega)
  rw [← hl2] at gm ⊢
  have tt := (RowAt.head' eStr 9 0 p).toT
  have hL := IsS.tree eStr l
  refine mc_seq_runs ctx19 ?_
  simp -implicitDefEqProofs [S105, ← hp, tt, tb19, gm]
  refine mc_seq_runs ctx19 ?_
  simp -implicitDefEqProofs
  refine mc_cut (fun _ : Unit => S105b l l.length) (fun _ => True) (fun _ => rfl) ?_ ?_
  ·refine mc_seq_runs ctx19 ?_
   simp -implicitDefEqProofs
   refine mc_block ?_
   refine mc_for (S105b l) l.length (fun _ => rfl) ?_ rfl ?_ ?_
   ·exact sub_row0 (by omega) (by simp -implicitDefEqProofs [S105b, joinUp, under])
   ·intro j hj
    refine mc_runs ctx19 ?_
    obtain ⟨s, hs⟩ : ∃ s, l[j]? = some s := ⟨_, List.getElem?_eq_getElem hj⟩
    have hgd : l.getD j emptyS = s := by simp [List.getD_eq_getElem?_getD, hs]
    have ia := ia_str hL hs
    have e1 : IntKind.i64.wrap ((j : Int) + 1) = ((j + 1 : Nat) : Int) := wrap_nat (by omega) (by omega)
    have hs1 := size_joinUp l hls j (Nat.le_of_lt hj)
    have hs2 := hls s (List.mem_of_getElem? hs)
    unfold cap at hs1 hs2
    have hs3 : j * (1000000000000 + 1) ≤ 256 * (1000000000000 + 1) := Nat.mul_le_mul_right _ (by omega)
    by_cases h0 : 0 < j
    ·have js : joinUp l (j + 1) = (joinUp l j ++ amp) ++ s := by simp only [joinUp, if_pos h0, hgd]
     have hsa : (joinUp l j ++ amp).size = (joinUp l j).size + 1 := by rw [ByteArray.size_append]; rfl
     have a1 : ∀ Φ H nx, evalK Φ H nx (.bin false .add none) [.t (sv (joinUp l j)), .t (sv amp)] = some (.t (sv (joinUp l j ++ amp)), H, nx) := fun Φ H nx => evalK_sadd _ _ _ _ (by have : amp.size = 1 := rfl; omega)
     have a2 : ∀ Φ H nx, evalK Φ H nx (.bin false .add none) [.t (sv (joinUp l j ++ amp)), .t (sv s)] = some (.t (sv ((joinUp l j ++ amp) ++ s)), H, nx) := fun Φ H nx => evalK_sadd _ _ _ _ (by omega)
     simp -implicitDefEqProofs [S105b, hj, hL.len, h0, a1, ia, loadM, a2, e1]
     exact sub_row0 (by omega) (by simp -implicitDefEqProofs [js, under])
    ·have js : joinUp l (j + 1) = joinUp l j ++ s := by simp only [joinUp, if_neg h0, hgd]
     have a2 : ∀ Φ H nx, evalK Φ H nx (.bin false .add none) [.t (sv (joinUp l j)), .t (sv s)] = some (.t (sv (joinUp l j ++ s)), H, nx) := fun Φ H nx => evalK_sadd _ _ _ _ (by omega)
     simp -implicitDefEqProofs [S105b, hj, hL.len, h0, ia, loadM, a2, e1]
     exact sub_row0 (by omega) (by simp -implicitDefEqProofs [js, under])
   ·refine mc_runs ctx19 ?_
    simp -implicitDefEqProofs [S105b, hL.len]
    exact Next.mk () trivial (sub_row0 (by omega) (by simp -implicitDefEqProofs [S105b, under]))
  ·rintro _ -
   refine mc_runs ctx19 ?_
   simp -implicitDefEqProofs [S105b]
structure Co where
 name : Str
 code : List W
def eCo : Enc Co := ⟨2, fun x => [sv x.name, encB x.code], fun _ => rfl, by omega, fun a b h => by
 obtain ⟨a1, a2⟩ := a
 obtain ⟨b1, b2⟩ := b
 injection h with h1 h2
 injection h2 with h2 _
 have e := decB_encB a2
 simp only at h2
 rw [h2, decB_encB] at e
 injection e with e
 injection h1 with h1
 injection h1 with h1
 have h1 : a1 = b1 := h1
 simp [h1, e]⟩
def before (a b : Co) : Bool := decide (cnt b.code < cnt a.code) || (decide (cnt a.code = cnt b.code) && lessS a.name b.name)
theorem before_call {a b : Co} (ha : a.code.length ≤ 1000) (hb : b.code.length ≤ 1000) : CallT Try.prog G 106 [.ag (eCo.enc a), .ag (eCo.enc b)] (· = bv (before a b)) := by
 have ok : TblOK Try.prog G [(133, gB1 fCnt)] := .cons (gB1_ok rcount_call) .nil
 have e1 : gB1 fCnt [encB a.code] = some (fCnt a.code) := gB1_eq (decB_encB a.code) ha
 have e2 : gB1 fCnt [encB b.code] = some (fCnt b.code) := gB1_eq (decB_encB b.code) hb
 refine k_r04_before.runs (ok.ctx mixed) rfl ?_
 by_cases h1 : cnt b.code < cnt a.code
 ·simp -implicitDefEqProofs [M_r04_before, eCo, cellsP, loadM, e1, e2, fCnt, before, h1]
 ·by_cases h2 : cnt a.code = cnt b.code
  ·simp -implicitDefEqProofs [M_r04_before, eCo, cellsP, loadM, e1, e2, fCnt, before, h1, h2]
  ·have h2' : ((cnt a.code : Int) == (cnt b.code : Int)) = false := by rw [beq_eq_false_iff_ne]; omega
   simp -implicitDefEqProofs [M_r04_before, eCo, cellsP, loadM, e1, e2, fCnt, before, h1, h2, h2']
end Go.Proofs.Ytbiadmfmjnoecaa
