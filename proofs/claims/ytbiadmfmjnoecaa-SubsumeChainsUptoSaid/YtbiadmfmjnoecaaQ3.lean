/-
  What lies below and above a declared type: what the functions return.
  The maximal ones of some declared types: what the function returns.
-/
import Derived.Test.YtbiadmfmjnoecaaQ2
import Derived.Test.YtbiadmfmjnoecaaB4
namespace Go.Proofs.Ytbiadmfmjnoecaa
set_option linter.unusedSimpArgs false
set_option linter.unusedVariables false
open Go Go.Abs
theorem bound_in {d : List TD} {todo : List Str} (hn : todo.Nodup) (hm : ∀ s ∈ todo, ∃ x ∈ d, x.name = s) : todo.length ≤ d.length := by
 have := nodup_le (m := d.map TD.name) hn fun s hs => by
  obtain ⟨x, hx, e⟩ := hm s hs
  exact List.mem_map.2 ⟨x, hx, e⟩
 simpa using this
noncomputable def belowIn (s : Str) (todo : List Str) (x : TD) : List Str := if hasS x.ss s && !hasS todo x.name then todo ++ [x.name] else todo
noncomputable def belowNext (d : List TD) (s : Str) (todo : List Str) : List Str := d.foldl (belowIn s) todo
noncomputable def belowTodo (d : List TD) (s : Str) : List Str := workF (belowNext d) (d.length + 1) 0 [s]
noncomputable def below (d : List TD) (s : Str) : List Str := if findD d s < 0 then [] else (belowTodo d s).foldl put []
structure Grow (d : List TD) (a b : List Str) : Prop where
 nodup : b.Nodup
 mem : ∀ s ∈ b, ∃ x ∈ d, x.name = s
 pre : ∃ m, b = a ++ m
theorem Grow.refl {d : List TD} {a : List Str} (h : a.Nodup) (hm : ∀ s ∈ a, ∃ x ∈ d, x.name = s) : Grow d a a := ⟨h, hm, [], by simp⟩
theorem Grow.add {d : List TD} {a b : List Str} (h : Grow d a b) {x : TD} (hx : x ∈ d) (hn : hasS b x.name = false) : Grow d a (b ++ [x.name]) := by
 obtain ⟨m, e⟩ := h.pre
 refine ⟨?_, ?_, m ++ [x.name], by rw [e, List.append_assoc]⟩
 ·rw [List.nodup_append]
  refine ⟨h.nodup, by simp, fun u hu v hv e2 => ?_⟩
  simp only [List.mem_singleton] at hv
  subst hv; subst e2
  rw [(hasS_iff b x.name).2 hu] at hn
  cases hn
 ·intro s hs
  rcases List.mem_append.1 hs with hs | hs
  ·exact h.mem s hs
  ·simp only [List.mem_singleton] at hs
   exact ⟨x, hx, hs.symm⟩
theorem Grow.at_ {d : List TD} {a b : List Str} (h : Grow d a b) {i : Nat} {s : Str} (hs : a[i]? = some s) : b[i]? = some s := by
 obtain ⟨m, rfl⟩ := h.pre
 rw [List.getElem?_append_left (List.getElem?_eq_some_iff.1 hs).1]
 exact hs
theorem Grow.len {d : List TD} {a b : List Str} (h : Grow d a b) : a.length ≤ b.length := by
 obtain ⟨m, rfl⟩ := h.pre
 simp
noncomputable def belowUp (d : List TD) (s : Str) (todo : List Str) (j : Nat) : List Str := (d.take j).foldl (belowIn s) todo
theorem belowUp_succ {d : List TD} {s : Str} {todo : List Str} {j : Nat} {x : TD} (h : d[j]? = some x) : belowUp d s todo (j + 1) = belowIn s (belowUp d s todo j) x := by
 unfold belowUp
 rw [List.take_add_one, h]
 simp [List.foldl_append]
theorem belowUp_all (d : List TD) (s : Str) (todo : List Str) : belowUp d s todo d.length = belowNext d s todo := by unfold belowUp belowNext; rw [List.take_length]
theorem belowUp_grow {d : List TD} (s : Str) {todo : List Str} (h : todo.Nodup) (hm : ∀ s ∈ todo, ∃ x ∈ d, x.name = s) : ∀ j, j ≤ d.length → Grow d todo (belowUp d s todo j)
 | 0, _ => by simpa [belowUp] using Grow.refl h hm
 | j + 1, hj => by
  have ih := belowUp_grow s h hm j (by omega)
  obtain ⟨x, hx⟩ : ∃ x, d[j]? = some x := ⟨_, List.getElem?_eq_getElem (by omega)⟩
  rw [belowUp_succ hx]
  unfold belowIn
  split
  ·rename_i hc
   simp only [Bool.and_eq_true, Bool.not_eq_true'] at hc
   exact ih.add (List.mem_of_getElem? hx) hc.2
  ·exact ih
noncomputable def putAll (l : List Str) : List Str := l.foldl put []
noncomputable def putUp (l : List Str) (j : Nat) : List Str := (l.take j).foldl put []
theorem putUp_succ {l : List Str} {j : Nat} {x : Str} (h : l[j]? = some x) : putUp l (j + 1) = put (putUp l j) x := by
 unfold putUp
 rw [List.take_add_one, h]
 simp [List.foldl_append]
theorem length_putUp (l : List Str) : ∀ j, (putUp l j).length ≤ j
 | 0 => by simp [putUp]
 | j + 1 => by
  have ih := length_putUp l j
  cases h : l[j]? with
  | none =>
   have : putUp l (j + 1) = putUp l j := by unfold putUp; rw [List.take_add_one, h]; simp
   rw [this]; omega
  | some x =>
   rw [putUp_succ h]
   have := length_put (putUp l j) x
   omega
theorem putUp_all (l : List Str) : putUp l l.length = putAll l := by unfold putUp putAll; rw [List.take_length]
def S126 (t : T) (a : Nat × List Str) : AState := ⟨[(6, .t (iv (a.1 : Int))), (5, rowP eStr 0 a.2), (0, .t t)], rowH eStr 9 0 a.2, 1, 69⟩
noncomputable def S126b (t : T) (d : List TD) (s : Str) (todo : List Str) (i j : Nat) : AState := ⟨[(7, .t (iv (j : Int))), (6, .t (iv (i : Int))), (5, rowP eStr 0 (belowUp d s todo j)), (0, .t t)], rowH eStr 9 0 (belowUp d s todo j), 1, 69⟩
noncomputable def S126c (l : List Str) (j : Nat) : AState := ⟨[(9, .t (iv (j : Int))), (8, .t (treeS eStr (putUp l j))), (5, rowP eStr 0 l)], rowH eStr 9 0 l, 1, 69⟩
theorem below_call {t : T} {d : List TD} (ht : IsS eTD t d) (hd : DOK d) (s0 : Str) : CallT Try.prog G 126 [t, sv s0] (· = treeS eStr (below d s0)) := by
 have hdl := hd.1
 have gf := gFind_eq ht s0 (by unfold cap; omega)
 have hz : eStr.z = 1 := rfl
 refine k_r03_Below.call rfl ?_
 unfold M_r03_Below
 refine mc_seq_runs ctx11 ?_
 simp -implicitDefEqProofs
 by_cases h0 : findD d s0 < 0
 ·refine mc_runs ctx11 ?_
  have : below d s0 = [] := by unfold below; rw [if_pos h0]
  simp -implicitDefEqProofs [tb11, gf, h0, this, treeS]
 ·have hb : below d s0 = putAll (belowTodo d s0) := by unfold below; rw [if_neg h0]; rfl
  rw [hb]
  have hdecl : ∃ x ∈ d, x.name = s0 := by
   unfold findD at h0
   split at h0
   ·rename_i hi
    obtain ⟨x, hx, e⟩ := idxOf_spec hi
    exact ⟨x, List.mem_of_getElem? hx, e⟩
   ·exact absurd (by decide) h0
  refine mc_seq_runs ctx11 ?_
  simp -implicitDefEqProofs [tb11, gf, h0]
  have bs0 : bsliceM 9 1 [.string ⟨#[]⟩] 1 [(0, .t (sv s0))] 0 = some (.row 0 0 1 1, .cells 9 [.t (sv s0)]) := rfl
  refine mc_seq_runs ctx11 ?_
  simp -implicitDefEqProofs [bs0]
  refine mc_cut (fun _ : Unit => S126 t ((belowTodo d s0).length, belowTodo d s0)) (fun _ => (belowTodo d s0).length ≤ d.length) (fun _ => rfl) ?_ ?_
  ·refine mc_seq_runs ctx11 ?_
   simp -implicitDefEqProofs
   refine mc_block ?_
   refine mc_while (S126 t) (fun a => d.length + 1 - a.1) (fun a => Work (belowNext d) (fun s => ∃ x ∈ d, x.name = s) d.length [s0] a.1 a.2) (0, [s0]) (fun _ => rfl) ⟨by simp, by simpa using hdecl, by simp, rfl⟩ ?_ rfl ?_
   ·exact sub_row1 (l := [s0]) (k := 0) (.inr (by simp [rowOf, eStr])) (by omega) (by omega) (by simp -implicitDefEqProofs [rowP, eStr, ren, under])
   ·rintro ⟨i, todo⟩ hw
    have hbd : todo.length ≤ d.length := bound_in hw.nodup hw.mem
    have hile : i ≤ todo.length := hw.le
    have r0 := RowAt.head' eStr 9 0 todo
    by_cases hi : i < todo.length
    ·obtain ⟨s, hs⟩ : ∃ s, todo[i]? = some s := ⟨_, List.getElem?_eq_getElem hi⟩
     refine mc_seq_runs ctx11 ?_
     simp -implicitDefEqProofs [S126, len_rowP, hi]
     refine mc_cut (fun _ : Unit => S126b t d s todo i d.length) (fun _ => True) (fun _ => rfl) ?_ ?_
     ·refine mc_block ?_
      refine mc_seq_runs ctx11 ?_
      simp -implicitDefEqProofs
      refine mc_block ?_
      refine mc_for (S126b t d s todo i) d.length (fun _ => rfl) ?_ rfl ?_ ?_
      ·exact sub_row1 (k := 0) r0 (by omega) (by omega) (by simp -implicitDefEqProofs [belowUp, ren_rowP, under_rowP, ren, under])
      ·intro j hj
       refine mc_runs ctx11 ?_
       obtain ⟨x, hx⟩ : ∃ x, d[j]? = some x := ⟨_, List.getElem?_eq_getElem hj⟩
       have ok := hd.2 x (List.mem_of_getElem? hx)
       have hg := belowUp_grow s hw.nodup hw.mem j (by omega)
       have hgl : (belowUp d s todo j).length ≤ d.length := bound_in hg.nodup hg.mem
       have rj := RowAt.head' eStr 9 0 (belowUp d s todo j)
       have tt := rj.toT
       have hsj := hg.at_ hs
       have ir := iaddr_rowP (e := eStr) (b := 0) hsj .i64
       have ld := rj.load (off := 0) (c := sv s) hsj rfl
       rw [hz, Nat.mul_one] at ir
       rw [hz, Nat.mul_one, Nat.add_zero] at ld
       have e1 : IntKind.i64.wrap ((j : Int) + 1) = ((j + 1 : Nat) : Int) := wrap_nat (by omega) (by omega)
       have ia := ht.iaddr hx .i64
       simp only [eTD, List.cons_append, List.nil_append] at ia
       have g1' := gAmong_eq ok.ss s ok.ssl
       have g2' := gAmong_eq (IsS.tree eStr (belowUp d s todo j)) x.name (by unfold cap; omega)
       have bu := belowUp_succ (s := s) (todo := todo) hx
       unfold belowIn at bu
       have lp : ∀ (cs : List T) (c : T), loadM false 1 (rowH eStr 9 0 (belowUp d s todo j)) (.t (.pt (c :: cs))) = some (.t c) := fun cs c => rfl
       cases z1 : hasS x.ss s with
       | false =>
        rw [z1] at bu
        simp only [Bool.false_and, Bool.false_eq_true, if_false] at bu
        simp -implicitDefEqProofs [S126b, hj, ht.len, ia, lp, ir, ld, tb11, g1', z1, e1]
        rw [bu]
        exact sub_row1 (k := 0) rj (by omega) (by omega) (by simp -implicitDefEqProofs [ren_rowP, under_rowP, ren, under])
       | true =>
        cases z2 : hasS (belowUp d s todo j) x.name with
        | true =>
         rw [z1, z2] at bu
         simp only [Bool.true_and, Bool.not_true, Bool.false_eq_true, if_false] at bu
         simp -implicitDefEqProofs [S126b, hj, ht.len, ia, lp, ir, ld, tt, tb11, g1', g2', z1, z2, e1]
         rw [bu]
         exact sub_row1 (k := 0) rj (by omega) (by omega) (by simp -implicitDefEqProofs [ren_rowP, under_rowP, ren, under])
        | false =>
         rw [z1, z2] at bu
         simp only [Bool.true_and, Bool.not_false, if_true] at bu
         have bs : bsliceM 9 1 [.string ⟨#[]⟩] 1 [(0, .t (sv x.name))] 1 = some (.row 1 0 1 1, .cells 9 [.t (sv x.name)]) := rfl
         obtain ⟨b2, H2, n2, ap2, r2, ne2, _⟩ := app_some (e := eStr) (ty := 9) (by' := 16) (nx := 2) (m := [x.name]) (rj.cons (k := 1) (r := .cells 9 [.t (sv x.name)]) (by omega)) (src_one (b := 1) (ty := 9) _ (by simp [eStr])) (by simp; omega) (by simp; omega)
         rw [hz] at ap2
         simp -implicitDefEqProofs [S126b, hj, ht.len, ia, lp, ir, ld, tt, tb11, g1', g2', z1, z2, bs, ap2, e1]
         rw [bu]
         exact sub_row1 (k := b2) r2 (by omega) (by omega) (by simp -implicitDefEqProofs [ren_rowP, under_rowP, ren, under])
      ·refine mc_runs ctx11 ?_
       have rj := RowAt.head' eStr 9 0 (belowUp d s todo d.length)
       simp -implicitDefEqProofs [S126b, ht.len]
       exact Next.mk () trivial (sub_row1 (k := 0) rj (by omega) (by omega) (by simp -implicitDefEqProofs [ren_rowP, under_rowP, ren, under]))
     ·rintro _ -
      refine mc_runs ctx11 ?_
      have hg := belowUp_grow s hw.nodup hw.mem d.length (Nat.le_refl _)
      have rj := RowAt.head' eStr 9 0 (belowUp d s todo d.length)
      have e1 : IntKind.i64.wrap ((i : Int) + 1) = ((i + 1 : Nat) : Int) := wrap_nat (by omega) (by omega)
      simp -implicitDefEqProofs [S126b, e1]
      exact Next.mk (i + 1, belowUp d s todo d.length) ⟨hw.step hs hbd (belowUp_all d s todo) hg.nodup hg.mem hg.len, by simp only; omega⟩ (sub_row1 (k := 0) rj (by omega) (by omega) (by simp -implicitDefEqProofs [ren_rowP, under_rowP, ren, under]))
    ·have hie : i = todo.length := by omega
     have he : belowTodo d s0 = todo := hw.stop hie
     refine mc_runs ctx11 ?_
     simp -implicitDefEqProofs [S126, len_rowP, hi]
     rw [he]
     exact Next.mk () (by first | exact hbd | exact trivial) (sub_row1 (k := 0) r0 (by omega) (by omega) (by simp -implicitDefEqProofs [hie, ren_rowP, under_rowP, ren, under]))
  ·rintro _ hbl
   obtain ⟨l, hl⟩ : ∃ l, l = belowTodo d s0 := ⟨_, rfl⟩
   rw [← hl] at hbl ⊢
   have r0 := RowAt.head' eStr 9 0 l
   refine mc_seq_runs ctx11 ?_
   simp -implicitDefEqProofs [S126]
   refine mc_cut (fun _ : Unit => S126c l l.length) (fun _ => True) (fun _ => rfl) ?_ ?_
   ·refine mc_seq_runs ctx11 ?_
    simp -implicitDefEqProofs
    refine mc_block ?_
    refine mc_for (S126c l) l.length (fun _ => rfl) ?_ rfl ?_ ?_
    ·exact sub_row1 (k := 0) r0 (by omega) (by omega) (by simp -implicitDefEqProofs [putUp, treeS, ren_rowP, under_rowP, ren, under])
    ·intro j hj
     refine mc_runs ctx11 ?_
     obtain ⟨s, hs⟩ : ∃ s, l[j]? = some s := ⟨_, List.getElem?_eq_getElem hj⟩
     have ir := iaddr_rowP (e := eStr) (b := 0) hs .i64
     have ld := r0.load (off := 0) (c := sv s) hs rfl
     rw [hz, Nat.mul_one] at ir
     rw [hz, Nat.mul_one, Nat.add_zero] at ld
     have hpl := length_putUp l j
     have gp := gPut_eq (IsS.tree eStr (putUp l j)) s (by unfold cap; omega)
     rw [← putUp_succ hs] at gp
     have e1 : IntKind.i64.wrap ((j : Int) + 1) = ((j + 1 : Nat) : Int) := wrap_nat (by omega) (by omega)
     simp -implicitDefEqProofs [S126c, len_rowP, hj, ir, ld, tb11, gp, e1]
     exact sub_row1 (k := 0) r0 (by omega) (by omega) (by simp -implicitDefEqProofs [ren_rowP, under_rowP, ren, under])
    ·refine mc_runs ctx11 ?_
     simp -implicitDefEqProofs [S126c, len_rowP]
     exact Next.mk () trivial (sub_row1 (k := 0) r0 (by omega) (by omega) (by simp -implicitDefEqProofs [ren_rowP, under_rowP, ren, under]))
   ·rintro _ -
    refine mc_runs ctx11 ?_
    simp -implicitDefEqProofs [S126c, putUp_all]
noncomputable def aboveIn (todo : List Str) (s : Str) : List Str := if !hasS todo s then todo ++ [s] else todo
noncomputable def supsOf (d : List TD) (s : Str) : List Str := ((d[idxOf d s]?).map TD.ss).getD []
noncomputable def aboveNext (d : List TD) (s : Str) (todo : List Str) : List Str := (supsOf d s).foldl aboveIn todo
noncomputable def aboveTodo (d : List TD) (s : Str) : List Str := workF (aboveNext d) (d.length + 1) 0 [s]
noncomputable def above (d : List TD) (s : Str) : List Str := if findD d s < 0 then [] else putAll (aboveTodo d s)
noncomputable def aboveUp (l : List Str) (todo : List Str) (j : Nat) : List Str := (l.take j).foldl aboveIn todo
theorem aboveUp_succ {l todo : List Str} {j : Nat} {x : Str} (h : l[j]? = some x) : aboveUp l todo (j + 1) = aboveIn (aboveUp l todo j) x := by
 unfold aboveUp
 rw [List.take_add_one, h]
 simp [List.foldl_append]
theorem aboveUp_grow {d : List TD} {l todo : List Str} (h : todo.Nodup) (hm : ∀ s ∈ todo, ∃ x ∈ d, x.name = s) (hl : ∀ s ∈ l, ∃ x ∈ d, x.name = s) : ∀ j, j ≤ l.length → Grow d todo (aboveUp l todo j)
 | 0, _ => by simpa [aboveUp] using Grow.refl h hm
 | j + 1, hj => by
  have ih := aboveUp_grow h hm hl j (by omega)
  obtain ⟨x, hx⟩ : ∃ x, l[j]? = some x := ⟨_, List.getElem?_eq_getElem (by omega)⟩
  rw [aboveUp_succ hx]
  unfold aboveIn
  obtain ⟨y, hy, e⟩ := hl x (List.mem_of_getElem? hx)
  split
  ·rename_i hc
   simp only [Bool.not_eq_true'] at hc
   subst e
   exact ih.add hy hc
  ·exact ih
theorem Good.decl {d : List TD} (hg : Good d) {x : TD} (hx : x ∈ d) {s : Str} (hs : s ∈ x.ss) : ∃ y ∈ d, y.name = s := by
 obtain ⟨y, hy, e⟩ := idxOf_spec (hg.sup x hx s hs)
 exact ⟨y, List.mem_of_getElem? hy, e⟩
theorem Good.find {d : List TD} (hg : Good d) {s : Str} (h : ∃ x ∈ d, x.name = s) : ∃ (i : Nat) (x : TD), i < d.length ∧ d[i]? = some x ∧ x.name = s ∧ idxOf d s = i ∧ findD d s = (i : Int) := by
 obtain ⟨x, hx, rfl⟩ := h
 obtain ⟨i, hi, e⟩ := List.getElem_of_mem hx
 have hx' : d[i]? = some x := by rw [List.getElem?_eq_getElem hi, e]
 have h1 := hg.idx i x hx'
 refine ⟨i, x, hi, hx', rfl, h1, ?_⟩
 unfold findD
 rw [h1, if_pos hi]
def S140 (t : T) (a : Nat × List Str) : AState := ⟨[(6, .t (iv (a.1 : Int))), (5, rowP eStr 0 a.2), (0, .t t)], rowH eStr 9 0 a.2, 1, 66⟩
noncomputable def S140b (t u : T) (l todo : List Str) (i j : Nat) : AState := ⟨[(8, .t (iv (j : Int))), (7, .t u), (6, .t (iv (i : Int))), (5, rowP eStr 0 (aboveUp l todo j)), (0, .t t)], rowH eStr 9 0 (aboveUp l todo j), 1, 66⟩
noncomputable def S140c (l : List Str) (j : Nat) : AState := ⟨[(10, .t (iv (j : Int))), (9, .t (treeS eStr (putUp l j))), (5, rowP eStr 0 l)], rowH eStr 9 0 l, 1, 66⟩
theorem above_call {t : T} {d : List TD} (ht : IsS eTD t d) (hg : Good d) (s0 : Str) : CallT Try.prog G 140 [t, sv s0] (· = treeS eStr (above d s0)) := by
 have hdl := hg.ok.1
 have gf : ∀ s, gFind [t, sv s] = some (iv (findD d s)) := fun s => gFind_eq ht s (by unfold cap; omega)
 have hz : eStr.z = 1 := rfl
 refine k_r03_Above.call rfl ?_
 unfold M_r03_Above
 refine mc_seq_runs ctx11 ?_
 simp -implicitDefEqProofs
 by_cases h0 : findD d s0 < 0
 ·refine mc_runs ctx11 ?_
  have : above d s0 = [] := by unfold above; rw [if_pos h0]
  simp -implicitDefEqProofs [tb11, gf, h0, this, treeS]
 ·have hb : above d s0 = putAll (aboveTodo d s0) := by unfold above; rw [if_neg h0]
  rw [hb]
  have hdecl : ∃ x ∈ d, x.name = s0 := by
   unfold findD at h0
   split at h0
   ·rename_i hi
    obtain ⟨x, hx, e⟩ := idxOf_spec hi
    exact ⟨x, List.mem_of_getElem? hx, e⟩
   ·exact absurd (by decide) h0
  refine mc_seq_runs ctx11 ?_
  simp -implicitDefEqProofs [tb11, gf, h0]
  have bs0 : bsliceM 9 1 [.string ⟨#[]⟩] 1 [(0, .t (sv s0))] 0 = some (.row 0 0 1 1, .cells 9 [.t (sv s0)]) := rfl
  refine mc_seq_runs ctx11 ?_
  simp -implicitDefEqProofs [bs0]
  refine mc_cut (fun _ : Unit => S140 t ((aboveTodo d s0).length, aboveTodo d s0)) (fun _ => (aboveTodo d s0).length ≤ d.length) (fun _ => rfl) ?_ ?_
  ·refine mc_seq_runs ctx11 ?_
   simp -implicitDefEqProofs
   refine mc_block ?_
   refine mc_while (S140 t) (fun a => d.length + 1 - a.1) (fun a => Work (aboveNext d) (fun s => ∃ x ∈ d, x.name = s) d.length [s0] a.1 a.2) (0, [s0]) (fun _ => rfl) ⟨by simp, by simpa using hdecl, by simp, rfl⟩ ?_ rfl ?_
   ·exact sub_row1 (l := [s0]) (k := 0) (.inr (by simp [rowOf, eStr])) (by omega) (by omega) (by simp -implicitDefEqProofs [rowP, eStr, ren, under])
   ·rintro ⟨i, todo⟩ hw
    have hbd : todo.length ≤ d.length := bound_in hw.nodup hw.mem
    have hile : i ≤ todo.length := hw.le
    have r0 := RowAt.head' eStr 9 0 todo
    by_cases hi : i < todo.length
    ·obtain ⟨s, hs⟩ : ∃ s, todo[i]? = some s := ⟨_, List.getElem?_eq_getElem hi⟩
     obtain ⟨p, x, hp, hx, hxs, hidx, hfd⟩ := hg.find (hw.mem s (List.mem_of_getElem? hs))
     have ok := hg.ok.2 x (List.mem_of_getElem? hx)
     have hsup : supsOf d s = x.ss := by unfold supsOf; rw [hidx, hx]; rfl
     have hxl := ok.ssl
     unfold cap at hxl
     have ir := iaddr_rowP (e := eStr) (b := 0) hs .i64
     have ld := r0.load (off := 0) (c := sv s) hs rfl
     rw [hz, Nat.mul_one] at ir
     rw [hz, Nat.mul_one, Nat.add_zero] at ld
     have ia := ht.iaddr hx .i64
     simp only [eTD, List.cons_append, List.nil_append] at ia
     have gfs := gf s
     rw [hfd] at gfs
     refine mc_seq_runs ctx11 ?_
     simp -implicitDefEqProofs [S140, len_rowP, hi]
     refine mc_cut (fun _ : Unit => S140b t x.supers x.ss todo i x.ss.length) (fun _ => True) (fun _ => rfl) ?_ ?_
     ·refine mc_block ?_
      have lp : ∀ (cs : List T) (c : T), loadM false 1 (rowH eStr 9 0 todo) (.t (.pt (c :: cs))) = some (.t c) := fun cs c => rfl
      refine mc_seq_runs ctx11 ?_
      simp -implicitDefEqProofs [ir, ld, tb11, gfs, ia, lp]
      refine mc_seq_runs ctx11 ?_
      simp -implicitDefEqProofs
      refine mc_block ?_
      refine mc_for (S140b t x.supers x.ss todo i) x.ss.length (fun _ => rfl) ?_ rfl ?_ ?_
      ·exact sub_row1 (k := 0) r0 (by omega) (by omega) (by simp -implicitDefEqProofs [aboveUp, ren_rowP, under_rowP, ren, under])
      ·intro j hj
       refine mc_runs ctx11 ?_
       obtain ⟨y, hy⟩ : ∃ y, x.ss[j]? = some y := ⟨_, List.getElem?_eq_getElem hj⟩
       have hgr := aboveUp_grow hw.nodup hw.mem (fun s hs => hg.decl (List.mem_of_getElem? hx) hs) j (Nat.le_of_lt hj)
       have hgl : (aboveUp x.ss todo j).length ≤ d.length := bound_in hgr.nodup hgr.mem
       have rj := RowAt.head' eStr 9 0 (aboveUp x.ss todo j)
       have tt := rj.toT
       have ib := ok.ss.iaddr hy .i64
       simp only [eStr, List.cons_append, List.nil_append] at ib
       have e1 : IntKind.i64.wrap ((j : Int) + 1) = ((j + 1 : Nat) : Int) := wrap_nat (by omega) (by omega)
       have ga := gAmong_eq (IsS.tree eStr (aboveUp x.ss todo j)) y (by unfold cap; omega)
       have bu := aboveUp_succ (todo := todo) hy
       unfold aboveIn at bu
       have lp : ∀ (cs : List T) (c : T), loadM false 1 (rowH eStr 9 0 (aboveUp x.ss todo j)) (.t (.pt (c :: cs))) = some (.t c) := fun cs c => rfl
       cases z2 : hasS (aboveUp x.ss todo j) y with
       | true =>
        rw [z2] at bu
        simp only [Bool.not_true, Bool.false_eq_true, if_false] at bu
        simp -implicitDefEqProofs [S140b, hj, ok.ss.len, ib, lp, tt, tb11, ga, z2, e1]
        rw [bu]
        exact sub_row1 (k := 0) rj (by omega) (by omega) (by simp -implicitDefEqProofs [ren_rowP, under_rowP, ren, under])
       | false =>
        rw [z2] at bu
        simp only [Bool.not_false, if_true] at bu
        have bs : bsliceM 9 1 [.string ⟨#[]⟩] 1 [(0, .t (sv y))] 1 = some (.row 1 0 1 1, .cells 9 [.t (sv y)]) := rfl
        obtain ⟨b2, H2, n2, ap2, r2, ne2, _⟩ := app_some (e := eStr) (ty := 9) (by' := 16) (nx := 2) (m := [y]) (rj.cons (k := 1) (r := .cells 9 [.t (sv y)]) (by omega)) (src_one (b := 1) (ty := 9) _ (by simp [eStr])) (by simp; omega) (by simp; omega)
        rw [hz] at ap2
        simp -implicitDefEqProofs [S140b, hj, ok.ss.len, ib, lp, tt, tb11, ga, z2, bs, ap2, e1]
        rw [bu]
        exact sub_row1 (k := b2) r2 (by omega) (by omega) (by simp -implicitDefEqProofs [ren_rowP, under_rowP, ren, under])
      ·refine mc_runs ctx11 ?_
       have rj := RowAt.head' eStr 9 0 (aboveUp x.ss todo x.ss.length)
       simp -implicitDefEqProofs [S140b, ok.ss.len]
       exact Next.mk () trivial (sub_row1 (k := 0) rj (by omega) (by omega) (by simp -implicitDefEqProofs [ren_rowP, under_rowP, ren, under]))
     ·rintro _ -
      refine mc_runs ctx11 ?_
      have hgr := aboveUp_grow hw.nodup hw.mem (fun s hs => hg.decl (List.mem_of_getElem? hx) hs) x.ss.length (Nat.le_refl _)
      have rj := RowAt.head' eStr 9 0 (aboveUp x.ss todo x.ss.length)
      have e1 : IntKind.i64.wrap ((i : Int) + 1) = ((i + 1 : Nat) : Int) := wrap_nat (by omega) (by omega)
      have hn : aboveUp x.ss todo x.ss.length = aboveNext d s todo := by unfold aboveUp aboveNext; rw [List.take_length, hsup]
      simp -implicitDefEqProofs [S140b, e1]
      exact Next.mk (i + 1, aboveUp x.ss todo x.ss.length) ⟨hw.step hs hbd hn hgr.nodup hgr.mem hgr.len, by simp only; omega⟩ (sub_row1 (k := 0) rj (by omega) (by omega) (by simp -implicitDefEqProofs [ren_rowP, under_rowP, ren, under]))
    ·have hie : i = todo.length := by omega
     have he : aboveTodo d s0 = todo := hw.stop hie
     refine mc_runs ctx11 ?_
     simp -implicitDefEqProofs [S140, len_rowP, hi]
     rw [he]
     exact Next.mk () (by first | exact hbd | exact trivial) (sub_row1 (k := 0) r0 (by omega) (by omega) (by simp -implicitDefEqProofs [hie, ren_rowP, under_rowP, ren, under]))
  ·rintro _ hbl
   obtain ⟨l, hl⟩ : ∃ l, l = aboveTodo d s0 := ⟨_, rfl⟩
   rw [← hl] at hbl ⊢
   have r0 := RowAt.head' eStr 9 0 l
   refine mc_seq_runs ctx11 ?_
   simp -implicitDefEqProofs [S140]
   refine mc_cut (fun _ : Unit => S140c l l.length) (fun _ => True) (fun _ => rfl) ?_ ?_
   ·refine mc_seq_runs ctx11 ?_
    simp -implicitDefEqProofs
    refine mc_block ?_
    refine mc_for (S140c l) l.length (fun _ => rfl) ?_ rfl ?_ ?_
    ·exact sub_row1 (k := 0) r0 (by omega) (by omega) (by simp -implicitDefEqProofs [putUp, treeS, ren_rowP, under_rowP, ren, under])
    ·intro j hj
     refine mc_runs ctx11 ?_
     obtain ⟨s, hs⟩ : ∃ s, l[j]? = some s := ⟨_, List.getElem?_eq_getElem hj⟩
     have ir := iaddr_rowP (e := eStr) (b := 0) hs .i64
     have ld := r0.load (off := 0) (c := sv s) hs rfl
     rw [hz, Nat.mul_one] at ir
     rw [hz, Nat.mul_one, Nat.add_zero] at ld
     have hpl := length_putUp l j
     have gp := gPut_eq (IsS.tree eStr (putUp l j)) s (by unfold cap; omega)
     rw [← putUp_succ hs] at gp
     have e1 : IntKind.i64.wrap ((j : Int) + 1) = ((j + 1 : Nat) : Int) := wrap_nat (by omega) (by omega)
     simp -implicitDefEqProofs [S140c, len_rowP, hj, ir, ld, tb11, gp, e1]
     exact sub_row1 (k := 0) r0 (by omega) (by omega) (by simp -implicitDefEqProofs [ren_rowP, under_rowP, ren, under])
    ·refine mc_runs ctx11 ?_
     simp -implicitDefEqProofs [S140c, len_rowP]
     exact Next.mk () trivial (sub_row1 (k := 0) r0 (by omega) (by omega) (by simp -implicitDefEqProofs [ren_rowP, under_rowP, ren, under]))
   ·rintro _ -
    refine mc_runs ctx11 ?_
    simp -implicitDefEqProofs [S140c, putUp_all]
theorem ia_str {t : T} {l : List Str} (h : IsS eStr t l) {i : Nat} {x : Str} (hx : l[i]? = some x) : iaddrM 1 (.t t) (.t (iv (i : Int))) = some (.t (.pt (sv x :: rest eStr l i))) := h.iaddr hx .i64
theorem workF_keep {next : Str → List Str → List Str} {In : Str → Prop} (hk : ∀ s todo, In s → todo.Nodup → (∀ u ∈ todo, In u) → (next s todo).Nodup ∧ ∀ u ∈ next s todo, In u) :
  ∀ (f i : Nat) (todo : List Str), todo.Nodup → (∀ u ∈ todo, In u) → (workF next f i todo).Nodup ∧ ∀ u ∈ workF next f i todo, In u
 | 0, i, todo, h1, h2 => ⟨h1, h2⟩
 | f + 1, i, todo, h1, h2 => by
  simp only [workF]
  split
  ·exact ⟨h1, h2⟩
  ·rename_i s hs
   obtain ⟨h3, h4⟩ := hk s todo (h2 s (List.mem_of_getElem? hs)) h1 h2
   exact workF_keep hk f (i + 1) _ h3 h4
theorem aboveTodo_ok {d : List TD} (hg : Good d) {s : Str} (hs : ∃ x ∈ d, x.name = s) : (aboveTodo d s).Nodup ∧ ∀ u ∈ aboveTodo d s, ∃ x ∈ d, x.name = u := by
 refine workF_keep (In := fun u => ∃ x ∈ d, x.name = u) (fun u todo hu h1 h2 => ?_) _ _ _ (by simp) (by simpa using hs)
 obtain ⟨p, x, hp, hx, hxs, hidx, hfd⟩ := hg.find hu
 have hsup : supsOf d u = x.ss := by unfold supsOf; rw [hidx, hx]; rfl
 have := aboveUp_grow h1 h2 (fun s hs => hg.decl (List.mem_of_getElem? hx) hs) x.ss.length (Nat.le_refl _)
 have e : aboveUp x.ss todo x.ss.length = aboveNext d u todo := by unfold aboveUp aboveNext; rw [List.take_length, hsup]
 rw [e] at this
 exact ⟨this.nodup, this.mem⟩
theorem belowTodo_ok {d : List TD} {s : Str} (hs : ∃ x ∈ d, x.name = s) : (belowTodo d s).Nodup ∧ ∀ u ∈ belowTodo d s, ∃ x ∈ d, x.name = u := by
 refine workF_keep (In := fun u => ∃ x ∈ d, x.name = u) (fun u todo hu h1 h2 => ?_) _ _ _ (by simp) (by simpa using hs)
 have := belowUp_grow u h1 h2 d.length (Nat.le_refl _)
 rw [belowUp_all] at this
 exact ⟨this.nodup, this.mem⟩
theorem decl_of_find {d : List TD} {s : Str} (h : ¬ findD d s < 0) : ∃ x ∈ d, x.name = s := by
 unfold findD at h
 split at h
 ·rename_i hi
  obtain ⟨x, hx, e⟩ := idxOf_spec hi
  exact ⟨x, List.mem_of_getElem? hx, e⟩
 ·exact absurd (by decide) h
theorem length_putAll (l : List Str) : (putAll l).length ≤ l.length := by
 rw [← putUp_all]; exact length_putUp l l.length
theorem above_len {d : List TD} (hg : Good d) (s : Str) : (above d s).length ≤ d.length := by
 unfold above
 split
 ·simp
 ·rename_i h
  obtain ⟨h1, h2⟩ := aboveTodo_ok hg (decl_of_find h)
  exact Nat.le_trans (length_putAll _) (bound_in h1 h2)
theorem below_len {d : List TD} (s : Str) : (below d s).length ≤ d.length := by
 unfold below
 split
 ·simp
 ·rename_i h
  obtain ⟨h1, h2⟩ := belowTodo_ok (decl_of_find h)
  exact Nat.le_trans (length_putAll _) (bound_in h1 h2)
theorem mem_put {l : List Str} {s u : Str} : u ∈ put l s ↔ u ∈ l ∨ u = s := by
 unfold put
 simp only
 split
 ·rename_i h
  constructor
  ·exact .inl
  ·rintro (h1 | rfl)
   ·exact h1
   ·exact List.mem_of_getElem? h
 ·constructor
  ·intro h
   rcases List.mem_append.1 h with h | h
   ·rcases List.mem_append.1 h with h | h
    ·exact .inl (List.mem_of_mem_take h)
    ·exact .inr (by simpa using h)
   ·exact .inl (List.mem_of_mem_drop h)
  ·rintro (h1 | rfl)
   ·rw [← List.take_append_drop (l.findIdx fun x => !lessS x s) l] at h1
    rcases List.mem_append.1 h1 with h1 | h1
    ·exact List.mem_append_left _ (List.mem_append_left _ h1)
    ·exact List.mem_append_right _ h1
   ·exact List.mem_append_left _ (List.mem_append_right _ (by simp))
theorem mem_foldl_put {l : List Str} : ∀ {acc : List Str} {u : Str}, u ∈ l.foldl put acc ↔ u ∈ acc ∨ u ∈ l := by
 induction l with
 | nil => intro acc u; simp
 | cons x l ih =>
  intro acc u
  rw [List.foldl_cons, ih, mem_put, List.mem_cons]
  constructor
  ·rintro ((h | h) | h)
   ·exact .inl h
   ·exact .inr (.inl h)
   ·exact .inr (.inr h)
  ·rintro (h | h | h)
   ·exact .inl (.inl h)
   ·exact .inl (.inr h)
   ·exact .inr h
theorem mem_putAll {l : List Str} {u : Str} : u ∈ putAll l ↔ u ∈ l := by
 unfold putAll
 rw [mem_foldl_put]; simp
def decIn (d : List TD) (out : List Str) (s : Str) : List Str := if 0 ≤ findD d s then put out s else out
def declUp (d : List TD) (l : List Str) (j : Nat) : List Str := (l.take j).foldl (decIn d) []
def decl (d : List TD) (l : List Str) : List Str := l.foldl (decIn d) []
theorem declUp_succ {d : List TD} {l : List Str} {j : Nat} {x : Str} (h : l[j]? = some x) : declUp d l (j + 1) = decIn d (declUp d l j) x := by
 unfold declUp
 rw [List.take_add_one, h]
 simp [List.foldl_append]
theorem length_declUp (d : List TD) (l : List Str) : ∀ j, (declUp d l j).length ≤ j
 | 0 => by simp [declUp]
 | j + 1 => by
  have ih := length_declUp d l j
  cases h : l[j]? with
  | none =>
   have : declUp d l (j + 1) = declUp d l j := by unfold declUp; rw [List.take_add_one, h]; simp
   rw [this]; omega
  | some x =>
   rw [declUp_succ h]
   unfold decIn
   split
   ·have := length_put (declUp d l j) x; omega
   ·omega
theorem declUp_all (d : List TD) (l : List Str) : declUp d l l.length = decl d l := by unfold declUp decl; rw [List.take_length]
theorem mem_decl {d : List TD} {l : List Str} {u : Str} (h : u ∈ decl d l) : u ∈ l ∧ ∃ x ∈ d, x.name = u := by
 have key : ∀ (l : List Str) (acc : List Str), u ∈ l.foldl (decIn d) acc → u ∈ acc ∨ (u ∈ l ∧ ∃ x ∈ d, x.name = u) := by
  intro l
  induction l with
  | nil => intro acc h; exact .inl h
  | cons y l ih =>
   intro acc h
   rw [List.foldl_cons] at h
   rcases ih _ h with h | ⟨h, h'⟩
   ·unfold decIn at h
    split at h
    ·rename_i hf
     rcases mem_put.1 h with h | rfl
     ·exact .inl h
     ·exact .inr ⟨by simp, decl_of_find (by omega)⟩
    ·exact .inl h
   ·exact .inr ⟨by simp [h], h'⟩
 rcases key l [] h with h | h
 ·cases h
 ·exact h
def S139 (t u : T) (d : List TD) (l : List Str) (j : Nat) : AState := ⟨[(6, .t (iv (j : Int))), (5, .t (treeS eStr (declUp d l j))), (1, .t u), (0, .t t)], [], 0, 27⟩
theorem declared_call {t u : T} {d : List TD} {l : List Str} (ht : IsS eTD t d) (hu : IsS eStr u l) (hdl : d.length ≤ cap) (hl : l.length ≤ cap) : CallT Try.prog G 139 [t, u] (· = treeS eStr (decl d l)) := by
 have gf : ∀ s, gFind [t, sv s] = some (iv (findD d s)) := fun s => gFind_eq ht s hdl
 unfold cap at hl
 refine k_r03_declared.call rfl ?_
 unfold M_r03_declared
 refine mc_seq_runs ctx11 ?_
 simp -implicitDefEqProofs
 refine mc_seq_runs ctx11 ?_
 simp -implicitDefEqProofs
 refine mc_cut (fun _ : Unit => S139 t u d l l.length) (fun _ => True) (fun _ => rfl) ?_ ?_
 ·refine mc_seq_runs ctx11 ?_
  simp -implicitDefEqProofs
  refine mc_block ?_
  refine mc_for (S139 t u d l) l.length (fun _ => rfl) ?_ rfl ?_ ?_
  ·refine sub_forget rfl rfl ?_ ?_ <;> simp -implicitDefEqProofs [S139, declUp, treeS]
  ·intro j hj
   refine mc_runs ctx11 ?_
   obtain ⟨s, hs⟩ : ∃ s, l[j]? = some s := ⟨_, List.getElem?_eq_getElem hj⟩
   have e1 : IntKind.i64.wrap ((j : Int) + 1) = ((j + 1 : Nat) : Int) := wrap_nat (by omega) (by omega)
   have ia := hu.iaddr hs .i64
   simp only [eStr, List.cons_append, List.nil_append] at ia
   have hln := length_declUp d l j
   have gp := gPut_eq (IsS.tree eStr (declUp d l j)) s (by unfold cap; omega)
   have ds := declUp_succ (d := d) hs
   unfold decIn at ds
   by_cases z : 0 ≤ findD d s
   ·rw [if_pos z] at ds
    simp -implicitDefEqProofs [S139, hj, hu.len, ia, loadM, tb11, gf, z, gp, e1]
    refine sub_forget rfl rfl ?_ ?_ <;> simp -implicitDefEqProofs [ds]
   ·rw [if_neg z] at ds
    simp -implicitDefEqProofs [S139, hj, hu.len, ia, loadM, tb11, gf, z, e1]
    refine sub_forget rfl rfl ?_ ?_ <;> simp -implicitDefEqProofs [ds]
  ·refine mc_runs ctx11 ?_
   simp -implicitDefEqProofs [S139, hu.len]
   exact Next.mk () trivial (sub_forget rfl rfl (by simp -implicitDefEqProofs) (by simp -implicitDefEqProofs))
 ·rintro _ -
  refine mc_runs ctx11 ?_
  simp -implicitDefEqProofs [S139, declUp_all]
noncomputable def freeUp (up all : List Str) (i : Nat) : Nat → Bool
 | 0 => true
 | k + 1 => freeUp up all i k && (decide (k = i) || !hasS up (all.getD k emptyS))
noncomputable def maxUp (d : List TD) (all : List Str) : Nat → List Str
 | 0 => []
 | j + 1 => maxUp d all j ++ (if freeUp (above d (all.getD j emptyS)) all j all.length then [all.getD j emptyS] else [])
noncomputable def maximal (d : List TD) (l : List Str) : List Str := maxUp d (decl d l) (decl d l).length
theorem length_maxUp (d : List TD) (all : List Str) : ∀ j, (maxUp d all j).length ≤ j
 | 0 => by simp [maxUp]
 | j + 1 => by
  have := length_maxUp d all j
  simp only [maxUp, List.length_append]
  split <;> simp <;> omega
theorem mem_maxUp {d : List TD} {all : List Str} {u : Str} : ∀ {j : Nat}, j ≤ all.length → u ∈ maxUp d all j → u ∈ all
 | 0, _, h => by simp [maxUp] at h
 | j + 1, hj, h => by
  simp only [maxUp] at h
  rcases List.mem_append.1 h with h | h
  ·exact mem_maxUp (by omega) h
  ·split at h
   ·simp only [List.mem_singleton] at h
    subst h
    simp [List.getD_eq_getElem?_getD, show j < all.length by omega]
   ·cases h
theorem mem_maximal {d : List TD} {l : List Str} {u : Str} (h : u ∈ maximal d l) : u ∈ l ∧ ∃ x ∈ d, x.name = u := mem_decl (mem_maxUp (Nat.le_refl _) h)
noncomputable def gAbove : List T → Option T := g2 (tSl eTD) tStr fun d s => open Classical in if Good d then some (treeS eStr (above d s)) else none
theorem above_ok : GOK Try.prog G 140 gAbove := g2_ok fun a b x y r ha hb hr => by
 obtain rfl : b = sv y := hb
 split at hr
 ·rename_i h; injection hr with hr; subst hr; exact above_call ha h y
 ·cases hr
theorem gAbove_eq {t : T} {d : List TD} (ht : IsS eTD t d) (hg : Good d) (s : Str) : gAbove [t, sv s] = some (treeS eStr (above d s)) :=
 (g2_eq (τ := tSl eTD) (σ := tStr) ht rfl).trans (if_pos hg)
noncomputable def gDecl : List T → Option T := g2 (tSl eTD) (tSl eStr) fun d l => if d.length ≤ cap ∧ l.length ≤ cap then some (treeS eStr (decl d l)) else none
theorem decl_ok : GOK Try.prog G 139 gDecl := g2_ok fun a b x y r ha hb hr => by
 split at hr
 ·rename_i h; injection hr with hr; subst hr; exact declared_call ha hb h.1 h.2
 ·cases hr
theorem gDecl_eq {t u : T} {d : List TD} {l : List Str} (ht : IsS eTD t d) (hu : IsS eStr u l) (hdl : d.length ≤ cap) (hl : l.length ≤ cap) : gDecl [t, u] = some (treeS eStr (decl d l)) :=
 (g2_eq (τ := tSl eTD) (σ := tSl eStr) ht hu).trans (if_pos ⟨hdl, hl⟩)
noncomputable def tb15 : Tbl := [(140, gAbove), (139, gDecl), (127, gAmong)]
theorem ctx15 : Ctx Try.prog G (orc tb15) := (TblOK.cons above_ok (.cons decl_ok (.cons among_ok .nil))).ctx mixed
noncomputable def S132 (t : T) (d : List TD) (all : List Str) (j : Nat) : AState := ⟨[(7, .t (iv (j : Int))), (6, .t (treeS eStr all)), (5, rowP eStr 0 (maxUp d all j)), (0, .t t)], rowH eStr 9 0 (maxUp d all j), 1, 56⟩
noncomputable def S132b (t : T) (d : List TD) (up all : List Str) (j k : Nat) : AState := ⟨[(10, .t (iv (k : Int))), (9, .t (bv (freeUp up all j k))), (8, .t (treeS eStr up)), (7, .t (iv (j : Int))), (6, .t (treeS eStr all)), (5, rowP eStr 0 (maxUp d all j)), (0, .t t)], rowH eStr 9 0 (maxUp d all j), 1, 56⟩
noncomputable def S132c (t : T) (d : List TD) (all : List Str) (j : Nat) : AState := ⟨[(7, .t (iv (j : Int))), (6, .t (treeS eStr all)), (5, rowP eStr 0 (maxUp d all (j + 1))), (0, .t t)], rowH eStr 9 0 (maxUp d all (j + 1)), 1, 56⟩
theorem maximal_call {t u : T} {d : List TD} {l : List Str} (ht : IsS eTD t d) (hg : Good d) (hu : IsS eStr u l) (hl : l.length ≤ cap) : CallT Try.prog G 132 [t, u] (· = treeS eStr (maximal d l)) := by
 have hdl := hg.ok.1
 have q1 := gDecl_eq ht hu (by unfold cap; omega) hl
 have hz : eStr.z = 1 := rfl
 refine k_r03_Maximal.call rfl ?_
 unfold M_r03_Maximal
 refine mc_seq_runs ctx15 ?_
 simp -implicitDefEqProofs
 refine mc_seq_runs ctx15 ?_
 simp -implicitDefEqProofs
 refine mc_seq_runs ctx15 ?_
 simp -implicitDefEqProofs [tb15, q1]
 have hall : (decl d l).length ≤ cap := by rw [← declUp_all]; exact Nat.le_trans (length_declUp d l l.length) hl
 unfold maximal
 obtain ⟨all, ha⟩ : ∃ all, all = decl d l := ⟨_, rfl⟩
 rw [← ha] at hall ⊢
 unfold cap at hall
 have hA := IsS.tree eStr all
 refine mc_cut (fun _ : Unit => S132 t d all all.length) (fun _ => True) (fun _ => rfl) ?_ ?_
 ·refine mc_seq_runs ctx15 ?_
  simp -implicitDefEqProofs
  refine mc_block ?_
  refine mc_for (S132 t d all) all.length (fun _ => rfl) ?_ rfl ?_ ?_
  ·exact sub_row1 (k := 0) (RowAt.nil _ _ _ _) (by omega) (by omega) (by simp -implicitDefEqProofs [maxUp, rowP, ren, under])
  ·intro j hj
   obtain ⟨s, hs⟩ : ∃ s, all[j]? = some s := ⟨_, List.getElem?_eq_getElem hj⟩
   have hgd : all.getD j emptyS = s := by simp [List.getD_eq_getElem?_getD, hs]
   have ia := ia_str hA hs
   have ga := gAbove_eq ht hg s
   have hal := above_len hg s
   have r0 := RowAt.head' eStr 9 0 (maxUp d all j)
   have hml := length_maxUp d all j
   have lp : ∀ (cs : List T) (c : T), loadM false 1 (rowH eStr 9 0 (maxUp d all j)) (.t (.pt (c :: cs))) = some (.t c) := fun cs c => rfl
   refine mc_seq_runs ctx15 ?_
   simp -implicitDefEqProofs [S132, hj, hA.len]
   refine mc_cut (fun _ : Unit => S132c t d all j) (fun _ => True) (fun _ => rfl) ?_ ?_
   ·refine mc_block ?_
    refine mc_seq_runs ctx15 ?_
    simp -implicitDefEqProofs [ia, lp, tb15, ga]
    refine mc_seq_runs ctx15 ?_
    simp -implicitDefEqProofs
    obtain ⟨up, hup⟩ : ∃ up, up = above d s := ⟨_, rfl⟩
    rw [← hup] at hal ⊢
    have hU := IsS.tree eStr up
    refine mc_cut (fun _ : Unit => S132b t d up all j all.length) (fun _ => True) (fun _ => rfl) ?_ ?_
    ·refine mc_seq_runs ctx15 ?_
     simp -implicitDefEqProofs
     refine mc_block ?_
     refine mc_for (S132b t d up all j) all.length (fun _ => rfl) ?_ rfl ?_ ?_
     ·exact sub_row1 (k := 0) r0 (by omega) (by omega) (by simp -implicitDefEqProofs [freeUp, ren_rowP, under_rowP, ren, under])
     ·intro k hk
      refine mc_runs ctx15 ?_
      obtain ⟨v, hv⟩ : ∃ v, all[k]? = some v := ⟨_, List.getElem?_eq_getElem hk⟩
      have hgv : all.getD k emptyS = v := by simp [List.getD_eq_getElem?_getD, hv]
      have ib := ia_str hA hv
      have gm := gAmong_eq hU v (by unfold cap; omega)
      have e1 : IntKind.i64.wrap ((k : Int) + 1) = ((k + 1 : Nat) : Int) := wrap_nat (by omega) (by omega)
      have fs : freeUp up all j (k + 1) = (freeUp up all j k && (decide (k = j) || !hasS up v)) := by simp only [freeUp, hgv]
      cases z1 : freeUp up all j k with
      | false =>
       rw [z1, Bool.false_and] at fs
       simp -implicitDefEqProofs [S132b, hk, hA.len, z1, e1]
       exact sub_row1 (k := 0) r0 (by omega) (by omega) (by simp -implicitDefEqProofs [fs, ren_rowP, under_rowP, ren, under])
      | true =>
       by_cases z2 : k = j
       ·have z2' : ((k : Int) == (j : Int)) = true := by rw [z2]; simp
        rw [z1, decide_eq_true z2] at fs
        simp only [Bool.true_or, Bool.and_self] at fs
        simp -implicitDefEqProofs [S132b, hk, hA.len, z1, z2', e1]
        exact sub_row1 (k := 0) r0 (by omega) (by omega) (by simp -implicitDefEqProofs [fs, ren_rowP, under_rowP, ren, under])
       ·have z2' : ((k : Int) == (j : Int)) = false := by rw [beq_eq_false_iff_ne]; omega
        rw [z1, decide_eq_false z2] at fs
        simp only [Bool.true_and, Bool.false_or] at fs
        simp -implicitDefEqProofs [S132b, hk, hA.len, z1, z2', ib, lp, tb15, gm, e1]
        exact sub_row1 (k := 0) r0 (by omega) (by omega) (by simp -implicitDefEqProofs [fs, ren_rowP, under_rowP, ren, under])
     ·refine mc_runs ctx15 ?_
      simp -implicitDefEqProofs [S132b, hA.len]
      exact Next.mk () trivial (sub_row1 (k := 0) r0 (by omega) (by omega) (by simp -implicitDefEqProofs [ren_rowP, under_rowP, ren, under]))
    ·rintro _ -
     refine mc_runs ctx15 ?_
     have ms : maxUp d all (j + 1) = maxUp d all j ++ (if freeUp up all j all.length then [s] else []) := by simp only [maxUp, hgd, hup]
     cases z : freeUp up all j all.length with
     | false =>
      rw [z] at ms
      simp only [Bool.false_eq_true, if_false, List.append_nil] at ms
      simp -implicitDefEqProofs [S132b, z]
      refine Next.mk () trivial ?_
      unfold S132c
      rw [ms]
      exact sub_row1 (k := 0) r0 (by omega) (by omega) (by simp -implicitDefEqProofs [ren_rowP, under_rowP, ren, under])
     | true =>
      rw [z] at ms
      simp only [if_true] at ms
      have bs : bsliceM 9 1 [.string ⟨#[]⟩] 1 [(0, .t (sv s))] 1 = some (.row 1 0 1 1, .cells 9 [.t (sv s)]) := rfl
      obtain ⟨b2, H2, n2, ap2, r2, ne2, _⟩ := app_some (e := eStr) (ty := 9) (by' := 16) (nx := 2) (m := [s]) (r0.cons (k := 1) (r := .cells 9 [.t (sv s)]) (by omega)) (src_one (b := 1) (ty := 9) _ (by simp [eStr])) (by simp; omega) (by simp; omega)
      rw [hz] at ap2
      simp -implicitDefEqProofs [S132b, z, ia, lp, bs, ap2]
      refine Next.mk () trivial ?_
      unfold S132c
      rw [ms]
      exact sub_row1 (k := b2) r2 (by omega) (by omega) (by simp -implicitDefEqProofs [ren_rowP, under_rowP, ren, under])
   ·rintro _ -
    refine mc_runs ctx15 ?_
    have r1 := RowAt.head' eStr 9 0 (maxUp d all (j + 1))
    have e1 : IntKind.i64.wrap ((j : Int) + 1) = ((j + 1 : Nat) : Int) := wrap_nat (by omega) (by omega)
    simp -implicitDefEqProofs [S132c, e1]
    exact sub_row1 (k := 0) r1 (by omega) (by omega) (by simp -implicitDefEqProofs [ren_rowP, under_rowP, ren, under])
  ·refine mc_runs ctx15 ?_
   have r1 := RowAt.head' eStr 9 0 (maxUp d all all.length)
   simp -implicitDefEqProofs [S132, hA.len]
   exact Next.mk () trivial (sub_row1 (k := 0) r1 (by omega) (by omega) (by simp -implicitDefEqProofs [ren_rowP, under_rowP, ren, under]))
 ·rintro _ -
  refine mc_runs ctx15 ?_
  have tt := (RowAt.head' eStr 9 0 (maxUp d all all.length)).toT
  simp -implicitDefEqProofs [S132, tt]
end Go.Proofs.Ytbiadmfmjnoecaa
