/-
  numbers, Compare and Equal of the document.
  Compare and Equal of the document, and what Equal says.
  Canon and Check of the document; what Check says.
  Compile of the document: the hierarchy of declarations.
-/
import Derived.Test.YtbiadmfmjnoecaaQ10
import Derived.Test.YtbiadmfmjnoecaaQ11
namespace Go.Proofs.Ytbiadmfmjnoecaa
set_option linter.unusedSimpArgs false
set_option linter.unusedVariables false
open Go Go.Abs
theorem ren_id : ∀ p : PV, ren (fun x => x) p = p := by
 intro p
 exact PV.rec (motive_1 := fun p => ren (fun x => x) p = p) (motive_2 := fun ps => renL (fun x => x) ps = ps) (fun x => rfl) (fun b o n z => rfl) (fun b o => rfl) (fun cs ih => by simp only [ren, ih]) (fun cs ih => by simp only [ren, ih])
  (fun f a c ih1 ih2 => by simp only [ren, ih1, ih2]) (fun t x ih => by simp only [ren, ih]) (fun b => rfl) rfl rfl (fun p ps h1 h2 => by simp only [renL, h1, h2]) p
theorem renL_id : ∀ ps : List PV, renL (fun x => x) ps = ps
 | [] => rfl
 | p :: ps => by simp only [renL, ren_id p, renL_id ps]
theorem renRow_id (r : Row) : renRow (fun x => x) r = r := by
 cases r with
 | cells ty cs => simp only [renRow, renL_id]
 | iter t pos => rfl
theorem sub_R {P : Program} {B nx nx' n : Nat} {env env' : List (Nat × PV)} {H R : Heap} (hB : B ≤ nx') (hR : ∀ q ∈ R, Abs.look H q.1 = some q.2 ∧ q.1 < nx' ∧ underRow nx' q.2 = true)
  (he : ∀ q ∈ env', Abs.look env q.1 = some q.2 ∧ under nx' q.2 = true) : Sub P G B ⟨env, H, nx, n⟩ ⟨env', R, nx', n⟩ := by
 refine sub_ren (fun x => x) rfl hB (fun _ _ => rfl) (fun q hq => ?_) (fun q hq => ?_) (fun q _ q' _ e => e)
 ·rw [ren_id]; exact he q hq
 ·rw [renRow_id]; exact hR q hq
def tFS : Ty (List Nd) := ⟨fun t l => ∃ u, t = .ag [u] ∧ IsS eNd u l, fun t a b h h' => by
 obtain ⟨u, e, h⟩ := h
 obtain ⟨v, e', h'⟩ := h'
 rw [e] at e'
 injection e' with e'
 injection e' with e'
 subst e'
 exact (tSl eNd).uniq _ _ _ h h'⟩
def arcN (a : Arc) : List Int := [a.feat, a.to]
def nodeN (x : Nd) : List Int := x.type :: (x.arcs.length : Int) :: x.arcs.flatMap arcN
def numsL (l : List Nd) : List Int := (l.length : Int) :: l.flatMap nodeN
def numUp (l : List Nd) (i : Nat) : List Int := (l.length : Int) :: (l.take i).flatMap nodeN
def numIn (l : List Nd) (i : Nat) (x : Nd) (k : Nat) : List Int := numUp l i ++ [x.type, (x.arcs.length : Int)] ++ (x.arcs.take k).flatMap arcN
theorem arcsN_len (l : List Arc) : (l.flatMap arcN).length = 2 * l.length := by
 induction l with
 | nil => rfl
 | cons a r ih => simp only [List.flatMap_cons, List.length_append, ih, List.length_cons, arcN, List.length_nil]; omega
theorem nodesN_len {n : Nat} : ∀ (l : List Nd), (∀ x ∈ l, x.arcs.length ≤ n) → (l.flatMap nodeN).length ≤ l.length * (2 + 2 * n)
 | [], _ => by simp
 | x :: r, h => by
  have ih := nodesN_len r fun y hy => h y (List.mem_cons_of_mem _ hy)
  have hx := h x List.mem_cons_self
  have e : (r.length + 1) * (2 + 2 * n) = r.length * (2 + 2 * n) + (2 + 2 * n) := Nat.succ_mul _ _
  simp only [List.flatMap_cons, List.length_append, nodeN, List.length_cons, arcsN_len]
  rw [e]
  omega
theorem numUp_len {l : List Nd} (hl : l.length ≤ 100000) (h : ∀ x ∈ l, x.arcs.length ≤ 1000000) (i : Nat) : (numUp l i).length ≤ 1 + 100000 * 2000002 := by
 have h1 := nodesN_len (n := 1000000) (l.take i) fun x hx => h x (List.mem_of_mem_take hx)
 have h2 : (l.take i).length ≤ 100000 := by rw [List.length_take]; omega
 have h3 : (l.take i).length * (2 + 2 * 1000000) ≤ 100000 * (2 + 2 * 1000000) := Nat.mul_le_mul_right _ h2
 simp only [numUp, List.length_cons]
 omega
theorem numUp_succ {l : List Nd} {i : Nat} {x : Nd} (h : l[i]? = some x) : numUp l (i + 1) = numIn l i x x.arcs.length := by
 unfold numIn numUp
 rw [List.take_add_one, h, List.take_length]
 simp [nodeN]
theorem numIn_succ {l : List Nd} {i : Nat} {x : Nd} {k : Nat} {a : Arc} (h : x.arcs[k]? = some a) : numIn l i x (k + 1) = numIn l i x k ++ [a.feat, a.to] := by
 unfold numIn
 rw [List.take_add_one, h]
 simp [arcN]
theorem numUp_all (l : List Nd) : numUp l l.length = numsL l := by unfold numUp numsL; rw [List.take_length]
def S87R (t : T) : Heap := [(0, .cells 25 [.t t])]
def S87 (t : T) (l : List Nd) (i : Nat) : AState := ⟨[(4, .t (iv (i : Int))), (3, rowP eInt 1 (numUp l i)), (1, .ptr 0 0)], S87R t ++ rowH eInt 3 1 (numUp l i), 2, 55⟩
def S87e (t : T) (l : List Nd) (i : Nat) : AState := ⟨[(4, .t (iv (i : Int))), (3, rowP eInt 1 (numUp l (i + 1))), (1, .ptr 0 0)], S87R t ++ rowH eInt 3 1 (numUp l (i + 1)), 2, 55⟩
def S87i (t : T) (l : List Nd) (i : Nat) (x : Nd) (k : Nat) : AState := ⟨[(6, .t (iv (k : Int))), (5, .t x.tree), (4, .t (iv (i : Int))), (3, rowP eInt 1 (numIn l i x k)), (1, .ptr 0 0)], S87R t ++ rowH eInt 3 1 (numIn l i x k), 2, 55⟩
theorem subR87 {t : T} {H : Heap} {k : Nat} (h : Abs.look H 0 = some (.cells 25 [.t t])) (hk : k ≠ 0) : ∀ q ∈ S87R t, Abs.look H q.1 = some (renRow (fun x => if x = 1 then k else x) q.2) ∧ q.1 < 2 ∧ q.1 ≠ 1 ∧ q.1 ≠ k ∧ underRow 2 q.2 = true := by
 intro q hq
 simp only [S87R, List.mem_cons, List.not_mem_nil, or_false] at hq
 subst hq
 exact ⟨h, by omega, by omega, by show 0 ≠ k; omega, rfl⟩
theorem numbers_call {t : T} {l : List Nd} (ht : IsS eNd t l) (hl : l.length ≤ 100000) (ha : ∀ x ∈ l, x.arcs.length ≤ 1000000) : CallT Try.prog G 87 [.ag [t]] (· = treeS eInt (numsL l)) := by
 have hz : eInt.z = 1 := rfl
 have cp : cellsP (.t (.ag [t])) = some [.t t] := rfl
 refine k_r07_numbers.call rfl ?_
 unfold M_r07_numbers
 refine mc_seq_runs ctx0 ?_
 simp -implicitDefEqProofs [cp]
 have bs0 : bsliceM 3 1 [.int .i64 0] 1 [(0, .t (iv (l.length : Int)))] 1 = some (.row 1 0 1 1, .cells 3 [.t (iv (l.length : Int))]) := rfl
 refine mc_seq_runs ctx0 ?_
 simp -implicitDefEqProofs [loadM, ht.len, bs0]
 refine mc_cut (fun _ : Unit => S87 t l l.length) (fun _ => True) (fun _ => rfl) ?_ ?_
 ·refine mc_seq_runs ctx0 ?_
  simp -implicitDefEqProofs
  refine mc_block ?_
  refine mc_for (S87 t l) l.length (fun _ => rfl) ?_ rfl ?_ ?_
  ·have h0 : numUp l 0 = [(l.length : Int)] := rfl
   unfold S87
   rw [h0]
   refine sub_rowR (k := 1) (.inr (by simp [rowOf, eInt])) (by omega) (by omega) (subR87 (by simp) (by omega)) (by simp -implicitDefEqProofs [rowP, ren, under, eInt])
  ·intro i hi
   obtain ⟨x, hx⟩ : ∃ x, l[i]? = some x := ⟨_, List.getElem?_eq_getElem hi⟩
   have hxa := ha x (List.mem_of_getElem? hx)
   have e1 : IntKind.i64.wrap ((i : Int) + 1) = ((i + 1 : Nat) : Int) := wrap_nat (by omega) (by omega)
   have ix := ia_Nd ht hx
   have hnl := numUp_len hl ha i
   obtain ⟨H0, hH0⟩ : ∃ H0, H0 = S87R t ++ rowH eInt 3 1 (numUp l i) := ⟨_, rfl⟩
   have l0 : Abs.look H0 0 = some (.cells 25 [.t t]) := by rw [hH0]; rfl
   have r1 : RowAt eInt 3 H0 1 (numUp l i) := by rw [hH0]; exact RowAt.right (RowAt.head' _ _ _ _) (by simp [S87R])
   have ld0 : loadM false 1 H0 (.ptr 0 0) = some (.t t) := by simp [loadM, l0]
   have lp : ∀ c cs, loadM false 1 H0 (.t (.pt (c :: cs))) = some (.t c) := fun _ _ => rfl
   refine mc_seq_runs ctx0 ?_
   simp -implicitDefEqProofs [S87, ← hH0, hi, ld0, ht.len]
   refine mc_cut (fun _ : Unit => S87e t l i) (fun _ => True) (fun _ => rfl) ?_ ?_
   ·refine mc_block ?_
    refine mc_seq_runs ctx0 ?_
    simp -implicitDefEqProofs [ld0, ix, lp]
    have bs : bsliceM 3 1 [.int .i64 0] 2 [(0, .t (iv x.type)), (1, .t (iv (x.arcs.length : Int)))] 2 = some (.row 2 0 2 1, .cells 3 [.t (iv x.type), .t (iv (x.arcs.length : Int))]) := rfl
    obtain ⟨b2, H2, n2, ap2, r2, ne2, le2, lk2, ge2⟩ := app_some (e := eInt) (ty := 3) (by' := 8) (nx := 3) (m := [x.type, (x.arcs.length : Int)]) (src := .row 2 0 2 1) (r1.cons (k := 2) (r := .cells 3 [.t (iv x.type), .t (iv (x.arcs.length : Int))]) (by omega)) (by simp [srcP, eInt]) (by simp; omega) (by simp; omega)
    rw [hz] at ap2
    refine mc_seq_runs ctx0 ?_
    simp -implicitDefEqProofs [ld0, ix, lp, x.ok.len, bs, ap2]
    refine mc_seq_runs ctx0 ?_
    simp -implicitDefEqProofs
    refine mc_block ?_
    refine mc_for (S87i t l i x) x.arcs.length (fun _ => rfl) ?_ rfl ?_ ?_
    ·have h0 : numIn l i x 0 = numUp l i ++ [x.type, (x.arcs.length : Int)] := by simp [numIn]
     unfold S87i
     rw [h0]
     exact sub_rowR (k := b2) r2 (by omega) (by omega) (subR87 (by rw [lk2 0 (by omega) (by omega), look_cons, if_neg (by omega)]; exact l0) (by omega)) (by simp -implicitDefEqProofs [ren_rowP, under_rowP, ren, under])
    ·intro k hk
     obtain ⟨a, hak⟩ : ∃ a, x.arcs[k]? = some a := ⟨_, List.getElem?_eq_getElem hk⟩
     have e2 : IntKind.i64.wrap ((k : Int) + 1) = ((k + 1 : Nat) : Int) := wrap_nat (by omega) (by omega)
     have ib := ia_Arc x.ok hak
     have hil : (numIn l i x k).length ≤ 1 + 100000 * 2000002 + 2 + 2 * 1000000 := by
      have : (x.arcs.take k).length ≤ 1000000 := by rw [List.length_take]; omega
      simp only [numIn, List.length_append, arcsN_len, List.length_cons, List.length_nil]
      omega
     obtain ⟨Hk, hHk⟩ : ∃ Hk, Hk = S87R t ++ rowH eInt 3 1 (numIn l i x k) := ⟨_, rfl⟩
     have k0 : Abs.look Hk 0 = some (.cells 25 [.t t]) := by rw [hHk]; rfl
     have k1 : RowAt eInt 3 Hk 1 (numIn l i x k) := by rw [hHk]; exact RowAt.right (RowAt.head' _ _ _ _) (by simp [S87R])
     have lq : ∀ c cs, loadM false 1 Hk (.t (.pt (c :: cs))) = some (.t c) := fun _ _ => rfl
     have ts : tsliceM 3 1 [.int .i64 0] 2 [(0, .t (iv a.feat)), (1, .t (iv a.to))] = some (.t (treeS eInt [a.feat, a.to])) := rfl
     have hsrc : srcP Hk eInt.z (.t (treeS eInt [a.feat, a.to])) = _ := src_tree (IsS.tree eInt [a.feat, a.to])
     obtain ⟨b3, H3, n3, ap3, r3, ne3, le3, lk3, ge3⟩ := app_some (e := eInt) (ty := 3) (by' := 8) (nx := 2) k1 hsrc (by simp; omega) (by simp; omega)
     rw [← numIn_succ hak] at ap3 r3
     rw [hz] at ap3
     refine mc_runs ctx0 ?_
     simp -implicitDefEqProofs [S87i, ← hHk, hk, x.ok.len, ib, lq, ts, ap3, e2]
     exact sub_rowR (b := 1) (k := b3) (nx' := 2) r3 (by omega) (by omega) (subR87 (by rw [lk3 0 (by omega) (by omega)]; exact k0) (by omega)) (by simp -implicitDefEqProofs [ren_rowP, under_rowP, ren, under])
    ·refine mc_runs ctx0 ?_
     rw [show S87e t l i = ⟨[(4, .t (iv (i : Int))), (3, rowP eInt 1 (numIn l i x x.arcs.length)), (1, .ptr 0 0)], S87R t ++ rowH eInt 3 1 (numIn l i x x.arcs.length), 2, 55⟩ by unfold S87e; rw [numUp_succ hx]]
     simp -implicitDefEqProofs [S87i, x.ok.len]
     exact Next.mk () trivial (sub_env (by simp -implicitDefEqProofs))
   ·rintro _ -
    refine mc_runs ctx0 ?_
    simp -implicitDefEqProofs [S87e, e1]
    exact sub_env (by simp -implicitDefEqProofs)
  ·refine mc_runs ctx0 ?_
   have ld0 : loadM false 1 (S87R t ++ rowH eInt 3 1 (numUp l l.length)) (.ptr 0 0) = some (.t t) := rfl
   simp -implicitDefEqProofs [S87, ld0, ht.len]
   exact Next.mk () trivial (sub_env (by simp -implicitDefEqProofs))
 ·rintro _ -
  refine mc_runs ctx0 ?_
  have tt := RowAt.toT (RowAt.right (R := S87R t) (RowAt.head' eInt 3 1 (numUp l l.length)) (by simp [S87R]))
  rw [numUp_all] at tt
  simp -implicitDefEqProofs [S87, tt, numUp_all]
structure Small (l : List Nd) : Prop where
 len : l.length ≤ 100000
 arcs : ∀ x ∈ l, x.arcs.length ≤ 1000000
theorem numsL_len {l : List Nd} (h : Small l) : (numsL l).length ≤ 1 + 100000 * 2000002 := by
 rw [← numUp_all]
 exact numUp_len h.len h.arcs _
noncomputable def gNums : List T → Option T := g1 tFS fun l => open Classical in if Small l then some (treeS eInt (numsL l)) else none
theorem gNums_ok : GOK Try.prog G 87 gNums := g1_ok fun a x r ha hr => by
 obtain ⟨u, rfl, hu⟩ := ha
 split at hr
 ·rename_i h; injection hr with hr; subst hr; exact numbers_call hu h.len h.arcs
 ·cases hr
theorem gNums_eq {t : T} {l : List Nd} (ht : IsS eNd t l) (h : Small l) : gNums [.ag [t]] = some (treeS eInt (numsL l)) :=
 (g1_eq (τ := tFS) ⟨t, rfl, ht⟩).trans (if_pos h)
def cmpE (l m : List Int) (i : Nat) : Int := match l[i]?, m[i]? with
 | some a, some b => if a < b then -1 else if b < a then 1 else 0
 | _, _ => 0
def compareE (l m : List Int) : Int := fst (cmpE l m) (min l.length m.length)
noncomputable def tw9 : Tbl := [(87, gNums)]
theorem ctw9 : Ctx Try.prog G (orc tw9) := (TblOK.cons gNums_ok .nil).ctx mixed
theorem ia_int {t : T} {l : List Int} (h : IsS eInt t l) {i : Nat} {x : Int} (hx : l[i]? = some x) : iaddrM 1 (.t t) (.t (iv (i : Int))) = some (.t (.pt (iv x :: rest eInt l i))) := h.iaddr hx .i64
def S64 (u v : T) (j : Nat) : AState := ⟨[(7, .t (iv (j : Int))), (6, .t v), (5, .t u)], [], 2, 42⟩
theorem compare_call {t t' : T} {a b : List Nd} (ht : IsS eNd t a) (ht' : IsS eNd t' b) (ha : Small a) (hb : Small b) : CallT Try.prog G 64 [.ag [t], .ag [t']] (· = iv (compareE (numsL a) (numsL b))) := by
 have cp : cellsP (.t (.ag [t])) = some [.t t] := rfl
 have cp' : cellsP (.t (.ag [t'])) = some [.t t'] := rfl
 have ag : agOf [.t t] = .t (.ag [t]) := rfl
 have ag' : agOf [.t t'] = .t (.ag [t']) := rfl
 obtain ⟨u, hu⟩ : ∃ u, u = treeS eInt (numsL a) := ⟨_, rfl⟩
 obtain ⟨v, hv⟩ : ∃ v, v = treeS eInt (numsL b) := ⟨_, rfl⟩
 have hU : IsS eInt u (numsL a) := hu ▸ IsS.tree _ _
 have hV : IsS eInt v (numsL b) := hv ▸ IsS.tree _ _
 have ga := gNums_eq ht ha
 have gb := gNums_eq ht' hb
 rw [← hu] at ga
 rw [← hv] at gb
 have hal := numsL_len ha
 have hbl := numsL_len hb
 refine k_r07_Compare.call rfl ?_
 unfold M_r07_Compare
 refine mc_seq_runs ctw9 ?_
 simp -implicitDefEqProofs [cp, cp']
 refine mc_seq_runs ctw9 ?_
 simp -implicitDefEqProofs [loadM, ag, tw9, ga]
 refine mc_seq_runs ctw9 ?_
 simp -implicitDefEqProofs [loadM, ag', tw9, gb]
 generalize numsL a = l at *
 generalize numsL b = m at *
 obtain ⟨n, hle, h0, hn⟩ := fst_cases (cmpE l m) (min l.length m.length)
 refine mc_cut (fun _ : Unit => S64 u v (min l.length m.length)) (fun _ => n = min l.length m.length) (fun _ => rfl) ?_ ?_
 ·refine mc_seq_runs ctw9 ?_
  simp -implicitDefEqProofs
  refine mc_block ?_
  refine mc_for (S64 u v) n (fun _ => rfl) ?_ rfl ?_ ?_
  ·refine sub_forget rfl rfl ?_ ?_ <;> simp -implicitDefEqProofs [S64]
  ·intro j hj
   have hjl : j < l.length := by omega
   have hjm : j < m.length := by omega
   obtain ⟨x, hx⟩ : ∃ x, l[j]? = some x := ⟨_, List.getElem?_eq_getElem hjl⟩
   obtain ⟨y, hy⟩ : ∃ y, m[j]? = some y := ⟨_, List.getElem?_eq_getElem hjm⟩
   have e1 : IntKind.i64.wrap ((j : Int) + 1) = ((j + 1 : Nat) : Int) := wrap_nat (by omega) (by omega)
   have ix := ia_int hU hx
   have iy := ia_int hV hy
   have hz := h0 j hj
   simp only [cmpE, hx, hy] at hz
   have c1 : ¬ x < y := fun h => by rw [if_pos h] at hz; cases hz
   rw [if_neg c1] at hz
   have c2 : ¬ y < x := fun h => by rw [if_pos h] at hz; cases hz
   refine mc_runs ctw9 ?_
   simp -implicitDefEqProofs [S64, hjl, hjm, hU.len, hV.len, ix, iy, loadM, c1, c2, e1]
   refine sub_forget rfl rfl ?_ ?_ <;> simp -implicitDefEqProofs
  ·refine mc_runs ctw9 ?_
   rcases hn with ⟨e, _⟩ | ⟨hlt, hk, he⟩
   ·by_cases hl : n < l.length
    ·have hm : ¬ n < m.length := by omega
     simp -implicitDefEqProofs [S64, hU.len, hV.len, hl, hm]
     exact Next.mk () e (sub_forget rfl rfl (by simp -implicitDefEqProofs [e]) (by simp -implicitDefEqProofs))
    ·simp -implicitDefEqProofs [S64, hU.len, hV.len, hl]
     exact Next.mk () e (sub_forget rfl rfl (by simp -implicitDefEqProofs [e]) (by simp -implicitDefEqProofs))
   ·have hjl : n < l.length := by omega
    have hjm : n < m.length := by omega
    obtain ⟨x, hx⟩ : ∃ x, l[n]? = some x := ⟨_, List.getElem?_eq_getElem hjl⟩
    obtain ⟨y, hy⟩ : ∃ y, m[n]? = some y := ⟨_, List.getElem?_eq_getElem hjm⟩
    have ix := ia_int hU hx
    have iy := ia_int hV hy
    have he : compareE l m = cmpE l m n := he
    simp only [cmpE, hx, hy] at hk he
    by_cases c1 : x < y
    ·rw [if_pos c1] at he
     simp -implicitDefEqProofs [S64, hjl, hjm, hU.len, hV.len, ix, iy, loadM, c1, he]
    ·rw [if_neg c1] at he hk
     have c2 : y < x := Classical.byContradiction fun h => by rw [if_neg h] at hk; exact hk rfl
     rw [if_pos c2] at he
     simp -implicitDefEqProofs [S64, hjl, hjm, hU.len, hV.len, ix, iy, loadM, c1, c2, he]
 ·rintro _ e
  refine mc_runs ctw9 ?_
  have hr : compareE l m = 0 := by
   rcases hn with ⟨_, he⟩ | ⟨h, _⟩
   ·exact he
   ·omega
  simp -implicitDefEqProofs [S64, hr]
noncomputable def gCompare7 : List T → Option T := g2 tFS tFS fun a b => open Classical in if Small a ∧ Small b then some (iv (compareE (numsL a) (numsL b))) else none
theorem gCompare7_ok : GOK Try.prog G 64 gCompare7 := g2_ok fun a b x y r ha hb hr => by
 obtain ⟨u, rfl, hu⟩ := ha
 obtain ⟨v, rfl, hv⟩ := hb
 split at hr
 ·rename_i h; injection hr with hr; subst hr; exact compare_call hu hv h.1 h.2
 ·cases hr
theorem gCompare7_eq {t t' : T} {a b : List Nd} (ht : IsS eNd t a) (ht' : IsS eNd t' b) (ha : Small a) (hb : Small b) : gCompare7 [.ag [t], .ag [t']] = some (iv (compareE (numsL a) (numsL b))) :=
 (g2_eq (τ := tFS) (σ := tFS) ⟨t, rfl, ht⟩ ⟨t', rfl, ht'⟩).trans (if_pos ⟨ha, hb⟩)
noncomputable def tw9b : Tbl := [(64, gCompare7)]
theorem ctw9b : Ctx Try.prog G (orc tw9b) := (TblOK.cons gCompare7_ok .nil).ctx mixed
def eqE (a b : List Nd) : Bool := compareE (numsL a) (numsL b) == 0
theorem equal_call {t t' : T} {a b : List Nd} (ht : IsS eNd t a) (ht' : IsS eNd t' b) (ha : Small a) (hb : Small b) : CallT Try.prog G 33 [.ag [t], .ag [t']] (· = bv (eqE a b)) := by
 have cp : cellsP (.t (.ag [t])) = some [.t t] := rfl
 have cp' : cellsP (.t (.ag [t'])) = some [.t t'] := rfl
 have ag : agOf [.t t] = .t (.ag [t]) := rfl
 have ag' : agOf [.t t'] = .t (.ag [t']) := rfl
 have g := gCompare7_eq ht ht' ha hb
 refine k_r07_Equal.runs ctw9b rfl ?_
 simp -implicitDefEqProofs [M_r07_Equal, cp, cp', loadM, ag, ag', tw9b, g, eqE]
noncomputable def gEqual7 : List T → Option T := g2 tFS tFS fun a b => open Classical in if Small a ∧ Small b then some (bv (eqE a b)) else none
theorem gEqual7_ok : GOK Try.prog G 33 gEqual7 := g2_ok fun a b x y r ha hb hr => by
 obtain ⟨u, rfl, hu⟩ := ha
 obtain ⟨v, rfl, hv⟩ := hb
 split at hr
 ·rename_i h; injection hr with hr; subst hr; exact equal_call hu hv h.1 h.2
 ·cases hr
theorem gEqual7_eq {t t' : T} {a b : List Nd} (ht : IsS eNd t a) (ht' : IsS eNd t' b) (ha : Small a) (hb : Small b) : gEqual7 [.ag [t], .ag [t']] = some (bv (eqE a b)) :=
 (g2_eq (τ := tFS) (σ := tFS) ⟨t, rfl, ht⟩ ⟨t', rfl, ht'⟩).trans (if_pos ⟨ha, hb⟩)
def Nd.key (x : Nd) : Int × List Arc := (x.type, x.arcs)
def agree : List Int → List Int → Prop
 | a :: l, b :: m => a = b ∧ agree l m
 | _, _ => True
theorem agree_of : ∀ {l m : List Int}, (∀ (i : Nat) a b, l[i]? = some a → m[i]? = some b → a = b) → agree l m
 | [], _, _ => by unfold agree; trivial
 | _ :: _, [], _ => by unfold agree; trivial
 | a :: l, b :: m, h => ⟨h 0 a b rfl rfl, agree_of fun i x y hx hy => h (i + 1) x y (by simpa using hx) (by simpa using hy)⟩
theorem agree_append : ∀ {p q l m : List Int}, p.length = q.length → agree (p ++ l) (q ++ m) → p = q ∧ agree l m
 | [], [], _, _, _, h => ⟨rfl, h⟩
 | [], _ :: _, _, _, e, _ => by simp at e
 | _ :: _, [], _, _, e, _ => by simp at e
 | a :: p, b :: q, l, m, e, h => by
  have h : a = b ∧ agree (p ++ l) (q ++ m) := h
  obtain ⟨h1, h2⟩ := agree_append (by simpa using e) h.2
  exact ⟨by rw [h.1, h1], h2⟩
theorem arcsN_inj : ∀ {l m : List Arc}, l.length = m.length → l.flatMap arcN = m.flatMap arcN → l = m
 | [], [], _, _ => rfl
 | [], _ :: _, e, _ => by simp at e
 | _ :: _, [], e, _ => by simp at e
 | ⟨a1, a2⟩ :: l, ⟨b1, b2⟩ :: m, e, h => by
  simp only [List.flatMap_cons, arcN, List.cons_append, List.nil_append, List.cons.injEq] at h
  rw [h.1, h.2.1, arcsN_inj (by simpa using e) h.2.2]
theorem agree_nodes : ∀ {a b : List Nd}, a.length = b.length → agree (a.flatMap nodeN) (b.flatMap nodeN) → a.map Nd.key = b.map Nd.key
 | [], [], _, _ => rfl
 | [], _ :: _, e, _ => by simp at e
 | _ :: _, [], e, _ => by simp at e
 | x :: a, y :: b, e, h => by
  simp only [List.flatMap_cons, nodeN, List.cons_append] at h
  obtain ⟨h1, h2, h3⟩ := h
  have hl : x.arcs.length = y.arcs.length := by omega
  obtain ⟨h4, h5⟩ := agree_append (by rw [arcsN_len, arcsN_len, hl]) h3
  have h6 := arcsN_inj hl h4
  simp only [List.map_cons, Nd.key, h1, h6]
  rw [agree_nodes (by simpa using e) h5]
theorem numsL_key {a b : List Nd} (h : a.map Nd.key = b.map Nd.key) : numsL a = numsL b := by
 have key : ∀ l : List Nd, l.flatMap nodeN = (l.map Nd.key).flatMap fun k => k.1 :: (k.2.length : Int) :: k.2.flatMap arcN := by
  intro l
  induction l with
  | nil => rfl
  | cons x l ih => simp only [List.flatMap_cons, List.map_cons, ih]; rfl
 have hl : a.length = b.length := by simpa using congrArg List.length h
 unfold numsL
 rw [key a, key b, h, hl]
theorem eqE_iff {a b : List Nd} : eqE a b = true ↔ a.map Nd.key = b.map Nd.key := by
 unfold eqE
 rw [beq_iff_eq]
 constructor
 ·intro h
  have hz : ∀ (i : Nat) x y, (numsL a)[i]? = some x → (numsL b)[i]? = some y → x = y := by
   intro i x y hx hy
   have h1 := (List.getElem?_eq_some_iff.1 hx).1
   have h2 := (List.getElem?_eq_some_iff.1 hy).1
   have := fst_zero h i (by omega)
   simp only [cmpE, hx, hy] at this
   split at this
   ·cases this
   ·split at this
    ·cases this
    ·omega
  obtain ⟨h1, h2⟩ := agree_of hz
  exact agree_nodes (by omega) h2
 ·intro h
  rw [numsL_key h]
  refine fst_all fun i hi => ?_
  simp only [Nat.min_self] at hi
  simp [cmpE, List.getElem?_eq_getElem hi]
noncomputable def gFrom : List T → Option T := g2 tFS tInt fun l n => open Classical in if Small l ∧ (∀ x ∈ l, ∀ a ∈ x.arcs, 0 ≤ a.to ∧ a.to < (l.length : Int)) ∧ 0 ≤ n ∧ n < (l.length : Int) then some (.ag [treeS eNd (fromL l n.toNat)]) else none
theorem gFrom_ok : GOK Try.prog G 68 gFrom := g2_ok fun a b x y r ha hb hr => by
 obtain ⟨u, rfl, hu⟩ := ha
 obtain rfl : b = iv y := hb
 split at hr
 ·rename_i h
  injection hr with hr
  subst hr
  obtain ⟨h1, h2, h3, h4⟩ := h
  have e : y = (y.toNat : Int) := by omega
  have := from_call hu h1.len h1.arcs h2 (root := y.toNat) (by omega)
  rw [← e] at this
  exact this
 ·cases hr
theorem gFrom_eq {t : T} {l : List Nd} (ht : IsS eNd t l) (h : Small l) (hto : ∀ x ∈ l, ∀ a ∈ x.arcs, 0 ≤ a.to ∧ a.to < (l.length : Int)) {n : Nat} (hn : n < l.length) : gFrom [.ag [t], iv (n : Int)] = some (.ag [treeS eNd (fromL l n)]) :=
 (g2_eq (τ := tFS) (σ := tInt) ⟨t, rfl, ht⟩ rfl).trans (if_pos ⟨h, hto, by omega, by omega⟩)
noncomputable def canonT (l : List Nd) : T := if formE l ≠ 0 then .tu [.ag [nilS], iv (formE l)] else .tu [.ag [treeS eNd (fromL l 0)], iv 0]
noncomputable def tw10 : Tbl := [(110, gForm), (68, gFrom)]
theorem ctw10 : Ctx Try.prog G (orc tw10) := (TblOK.cons gForm_ok (.cons gFrom_ok .nil)).ctx mixed
theorem canon_call {t : T} {l : List Nd} (ht : IsS eNd t l) (h : Small l) : CallT Try.prog G 80 [.ag [t]] (· = canonT l) := by
 have cp : cellsP (.t (.ag [t])) = some [.t t] := rfl
 have ag : agOf [.t t] = .t (.ag [t]) := rfl
 have gf := gForm_eq ht h.arcs
 refine k_r07_Canon.runs ctw10 rfl ?_
 by_cases hE : formE l = 0
 ·have hF := form_zero hE
  rw [hE] at gf
  have gr := gFrom_eq ht h hF.to (n := 0) hF.pos
  obtain ⟨g, hg⟩ : ∃ g, g = treeS eNd (fromL l 0) := ⟨_, rfl⟩
  have hres : canonT l = .tu [.ag [g], iv 0] := by unfold canonT; rw [if_neg (by rw [hE]; simp), hg]
  rw [← hg] at gr
  have gr : gFrom [.ag [t], .v (.int .i64 0)] = some (.ag [g]) := gr
  have cg : cellsP (.t (.ag [g])) = some [.t g] := rfl
  have ag' : agOf [.t g] = .t (.ag [g]) := rfl
  simp -implicitDefEqProofs [M_r07_Canon, cp, loadM, storeM, splice, ag, ag', cg, tw10, gf, gr, hres]
 ·have hE' := neq_zero hE
  have hres : canonT l = .tu [.ag [nilS], iv (formE l)] := by unfold canonT; rw [if_pos hE]
  have fl : fillP (fun k => [(0, 1)][k]?) [.t nilS] [] = some [.t nilS] := rfl
  have ag' : agOf [.t nilS] = .t (.ag [nilS]) := rfl
  have cg : cellsP (.t (.ag [nilS])) = some [.t nilS] := rfl
  simp -implicitDefEqProofs [M_r07_Canon, cp, loadM, storeM, splice, ag, ag', cg, fl, tw10, gf, hE, hE', hres]
noncomputable def gCanon : List T → Option T := g1 tFS fun l => open Classical in if Small l then some (canonT l) else none
theorem gCanon_ok : GOK Try.prog G 80 gCanon := g1_ok fun a x r ha hr => by
 obtain ⟨u, rfl, hu⟩ := ha
 split at hr
 ·rename_i h; injection hr with hr; subst hr; exact canon_call hu h
 ·cases hr
theorem gCanon_eq {t : T} {l : List Nd} (ht : IsS eNd t l) (h : Small l) : gCanon [.ag [t]] = some (canonT l) :=
 (g1_eq (τ := tFS) ⟨t, rfl, ht⟩).trans (if_pos h)
theorem from_small {l : List Nd} (h : Small l) (hto : ∀ x ∈ l, ∀ a ∈ x.arcs, 0 ≤ a.to ∧ a.to < (l.length : Int)) {n : Nat} (hn : n < l.length) : Small (fromL l n) := by
 obtain ⟨hvi, hvj⟩ := visA_ok hto hn
 have h1 := hvi.sum
 have hl := h.len
 refine ⟨by simp only [fromL, List.length_map]; omega, fun x hx => ?_⟩
 unfold fromL at hx
 obtain ⟨m, hm, rfl⟩ := List.mem_map.1 hx
 show (renA _ (sortA _)).length ≤ _
 simp only [renA, List.length_map, sortA_len]
 obtain ⟨j, hj, e⟩ := List.getElem_of_mem hm
 obtain ⟨h2, h3, _⟩ := hvj.at' j m (by rw [List.getElem?_eq_getElem hj, e])
 have hm' : m.toNat < l.length := by omega
 unfold ndAt
 rw [List.getElem?_eq_getElem hm']
 exact h.arcs _ (List.getElem_mem hm')
def rngA (nf : Nat) (x : Nd) (k : Nat) : Int := match x.arcs[k]? with
 | some a => if (nf : Int) ≤ a.feat then 2 else 0
 | none => 0
def rngE (nt nf : Nat) (l : List Nd) (i : Nat) : Int := match l[i]? with
 | some x => if (nt : Int) ≤ x.type then 2 else fst (rngA nf x) x.arcs.length
 | none => 0
def check7E (nt nf : Nat) (l : List Nd) : Int := if formE l ≠ 0 then formE l else if fst (rngE nt nf l) l.length ≠ 0 then fst (rngE nt nf l) l.length else if eqE l (fromL l 0) then 0 else 3
noncomputable def tw10b : Tbl := [(80, gCanon), (33, gEqual7)]
theorem ctw10b : Ctx Try.prog G (orc tw10b) := (TblOK.cons gCanon_ok (.cons gEqual7_ok .nil)).ctx mixed
def R48 (tt tf t g : T) : Heap := [(0, .cells 29 [.t tt, .t tf]), (1, .cells 25 [.t t]), (2, .cells 25 [.t g])]
def S48 (tt tf t g : T) (i : Nat) : AState := ⟨[(7, .t (iv (i : Int))), (5, .ptr 2 0), (3, .ptr 1 0), (2, .ptr 0 0)], R48 tt tf t g, 3, 57⟩
def R48i (tt tf t g : T) (x : Nd) : Heap := [(0, .cells 29 [.t tt, .t tf]), (1, .cells 25 [.t t]), (2, .cells 25 [.t g]), (3, ndR x)]
def S48i (tt tf t g : T) (i : Nat) (x : Nd) (k : Nat) : AState := ⟨[(9, .t (iv (k : Int))), (8, .ptr 3 0), (7, .t (iv (i : Int))), (5, .ptr 2 0), (3, .ptr 1 0), (2, .ptr 0 0)], R48i tt tf t g x, 4, 57⟩
theorem check7_call {tt tf t : T} {ty : List Typ} {fe : List Ft} {l : List Nd} (hT : IsS eTyp tt ty) (hF : IsS eFt tf fe) (ht : IsS eNd t l) (h : Small l) : CallT Try.prog G 48 [.ag [tt, tf], .ag [t]] (· = iv (check7E ty.length fe.length l)) := by
 have cp : cellsP (.t (.ag [t])) = some [.t t] := rfl
 have cph : cellsP (.t (.ag [tt, tf])) = some [.t tt, .t tf] := rfl
 have ag : agOf [.t t] = .t (.ag [t]) := rfl
 have gc := gCanon_eq ht h
 have hl := h.len
 refine k_r07_Check.call rfl ?_
 unfold M_r07_Check
 refine mc_seq_runs ctw10b ?_
 simp -implicitDefEqProofs [cp, cph]
 by_cases hE : formE l = 0
 ·have hFo := form_zero hE
  have hsm := from_small h hFo.to (n := 0) hFo.pos
  obtain ⟨g, hg⟩ : ∃ g, g = treeS eNd (fromL l 0) := ⟨_, rfl⟩
  have hG : IsS eNd g (fromL l 0) := hg ▸ IsS.tree _ _
  have hc : canonT l = .tu [.ag [g], iv 0] := by unfold canonT; rw [if_neg (by rw [hE]; simp), hg]
  rw [hc] at gc
  have cg : cellsP (.t (.ag [g])) = some [.t g] := rfl
  have ag' : agOf [.t g] = .t (.ag [g]) := rfl
  have ge := gEqual7_eq ht hG h hsm
  have hres : check7E ty.length fe.length l = if fst (rngE ty.length fe.length l) l.length ≠ 0 then fst (rngE ty.length fe.length l) l.length else if eqE l (fromL l 0) then 0 else 3 := by
   unfold check7E
   rw [if_neg (by rw [hE]; simp)]
  refine mc_seq_runs ctw10b ?_
  simp -implicitDefEqProofs [loadM, ag, tw10b, gc, extractV, storeM, cg, splice]
  refine mc_seq_runs ctw10b ?_
  simp -implicitDefEqProofs
  obtain ⟨n, hle, h0, hn⟩ := fst_cases (rngE ty.length fe.length l) l.length
  refine mc_cut (fun _ : Unit => S48 tt tf t g l.length) (fun _ => n = l.length) (fun _ => rfl) ?_ ?_
  ·refine mc_seq_runs ctw10b ?_
   simp -implicitDefEqProofs
   refine mc_block ?_
   refine mc_for (S48 tt tf t g) n (fun _ => rfl) ?_ rfl ?_ ?_
   ·refine sub_forget rfl rfl ?_ ?_ <;> simp -implicitDefEqProofs [S48, R48]
   ·intro i hi
    have hil : i < l.length := by omega
    obtain ⟨x, hx⟩ : ∃ x, l[i]? = some x := ⟨_, List.getElem?_eq_getElem hil⟩
    have hxa := h.arcs x (List.mem_of_getElem? hx)
    have e1 : IntKind.i64.wrap ((i : Int) + 1) = ((i + 1 : Nat) : Int) := wrap_nat (by omega) (by omega)
    have ix := ia_Nd ht hx
    have cx : cellsP (.t (.ag [iv x.type, x.tree])) = some [.t (iv x.type), .t x.tree] := rfl
    have hz := h0 i hi
    simp only [rngE, hx] at hz
    have c1 : ¬ (ty.length : Int) ≤ x.type := fun h => by rw [if_pos h] at hz; cases hz
    rw [if_neg c1] at hz
    refine mc_seq_runs ctw10b ?_
    simp -implicitDefEqProofs [S48, R48, loadM, hil, ht.len]
    refine mc_cut (fun _ : Unit => S48 tt tf t g i) (fun _ => True) (fun _ => rfl) ?_ ?_
    ·refine mc_block ?_
     refine mc_seq_runs ctw10b ?_
     simp -implicitDefEqProofs [loadM, ix, storeM, cx, splice]
     refine mc_seq_runs ctw10b ?_
     simp -implicitDefEqProofs [loadM, hT.len, c1]
     refine mc_seq_runs ctw10b ?_
     simp -implicitDefEqProofs
     refine mc_block ?_
     refine mc_for (S48i tt tf t g i x) x.arcs.length (fun _ => rfl) ?_ rfl ?_ ?_
     ·refine sub_forget rfl rfl ?_ ?_ <;> simp -implicitDefEqProofs [S48i, R48i, ndR]
     ·intro k hk
      obtain ⟨a, hak⟩ : ∃ a, x.arcs[k]? = some a := ⟨_, List.getElem?_eq_getElem hk⟩
      have e2 : IntKind.i64.wrap ((k : Int) + 1) = ((k + 1 : Nat) : Int) := wrap_nat (by omega) (by omega)
      have ib := ia_Arc x.ok hak
      have hd := fst_zero hz k hk
      simp only [rngA, hak] at hd
      have hd : ¬ (fe.length : Int) ≤ a.feat := fun h => by rw [if_pos h] at hd; cases hd
      refine mc_runs ctw10b ?_
      simp -implicitDefEqProofs [S48i, R48i, ndR, loadM, hk, x.ok.len, ib, hF.len, hd, e2]
      refine sub_forget rfl rfl ?_ ?_ <;> simp -implicitDefEqProofs
     ·refine mc_runs ctw10b ?_
      simp -implicitDefEqProofs [S48i, R48i, ndR, loadM, x.ok.len]
      refine Next.mk () trivial (sub_R (by omega) (fun q hq => ?_) ?_)
      ·simp only [S48, R48, List.mem_cons, List.not_mem_nil, or_false] at hq
       rcases hq with rfl | rfl | rfl <;> exact ⟨rfl, by simp, rfl⟩
      ·simp -implicitDefEqProofs [S48, under]
    ·rintro _ -
     refine mc_runs ctw10b ?_
     simp -implicitDefEqProofs [S48, R48, e1]
     refine sub_forget rfl rfl ?_ ?_ <;> simp -implicitDefEqProofs
   ·rcases hn with ⟨e, _⟩ | ⟨hil, hk, he⟩
    ·refine mc_runs ctw10b ?_
     have hnl : ¬ n < l.length := by omega
     simp -implicitDefEqProofs [S48, R48, loadM, ht.len, hnl]
     exact Next.mk () e (sub_forget rfl rfl (by simp -implicitDefEqProofs [e]) (by simp -implicitDefEqProofs))
    ·obtain ⟨x, hx⟩ : ∃ x, l[n]? = some x := ⟨_, List.getElem?_eq_getElem hil⟩
     have hxa := h.arcs x (List.mem_of_getElem? hx)
     have ix := ia_Nd ht hx
     have cx : cellsP (.t (.ag [iv x.type, x.tree])) = some [.t (iv x.type), .t x.tree] := rfl
     have hres2 : check7E ty.length fe.length l = rngE ty.length fe.length l n := by rw [hres, if_pos (by rw [he]; exact hk), he]
     have hv : rngE ty.length fe.length l n = if (ty.length : Int) ≤ x.type then 2 else fst (rngA fe.length x) x.arcs.length := by simp only [rngE, hx]
     refine mc_seq_runs ctw10b ?_
     simp -implicitDefEqProofs [S48, R48, loadM, hil, ht.len]
     refine mc_cut (fun _ : Unit => S48 tt tf t g n) (fun _ => False) (fun _ => rfl) ?_ (fun _ h => h.elim)
     refine mc_block ?_
     refine mc_seq_runs ctw10b ?_
     simp -implicitDefEqProofs [loadM, ix, storeM, cx, splice]
     by_cases c1 : (ty.length : Int) ≤ x.type
     ·rw [if_pos c1] at hv
      rw [hv] at hres2
      refine mc_seq_runs ctw10b ?_
      simp -implicitDefEqProofs [loadM, hT.len, c1, hres2]
     ·rw [if_neg c1] at hv
      rw [hv] at hres2 hk
      refine mc_seq_runs ctw10b ?_
      simp -implicitDefEqProofs [loadM, hT.len, c1]
      obtain ⟨k, hkl, hk0, hkn⟩ := fst_cases (rngA fe.length x) x.arcs.length
      obtain ⟨hkn, hd, hvv⟩ : k < x.arcs.length ∧ rngA fe.length x k ≠ 0 ∧ fst (rngA fe.length x) x.arcs.length = rngA fe.length x k := by
       rcases hkn with ⟨_, h⟩ | h
       ·exact absurd h hk
       ·exact h
      obtain ⟨a, hak⟩ : ∃ a, x.arcs[k]? = some a := ⟨_, List.getElem?_eq_getElem hkn⟩
      have hda : (fe.length : Int) ≤ a.feat := Classical.byContradiction fun h => hd (by simp [rngA, hak, h])
      have hr2 : check7E ty.length fe.length l = 2 := by rw [hres2, hvv]; simp [rngA, hak, hda]
      refine mc_seq_runs ctw10b ?_
      simp -implicitDefEqProofs
      refine mc_block ?_
      refine mc_for (S48i tt tf t g n x) k (fun _ => rfl) ?_ rfl ?_ ?_
      ·refine sub_forget rfl rfl ?_ ?_ <;> simp -implicitDefEqProofs [S48i, R48i, ndR]
      ·intro j hj
       have hjn : j < x.arcs.length := by omega
       obtain ⟨b, hb⟩ : ∃ b, x.arcs[j]? = some b := ⟨_, List.getElem?_eq_getElem hjn⟩
       have e2 : IntKind.i64.wrap ((j : Int) + 1) = ((j + 1 : Nat) : Int) := wrap_nat (by omega) (by omega)
       have ib := ia_Arc x.ok hb
       have hd := hk0 j hj
       simp only [rngA, hb] at hd
       have hd : ¬ (fe.length : Int) ≤ b.feat := fun h => by rw [if_pos h] at hd; cases hd
       refine mc_runs ctw10b ?_
       simp -implicitDefEqProofs [S48i, R48i, ndR, loadM, hjn, x.ok.len, ib, hF.len, hd, e2]
       refine sub_forget rfl rfl ?_ ?_ <;> simp -implicitDefEqProofs
      ·have ib := ia_Arc x.ok hak
       refine mc_runs ctw10b ?_
       simp -implicitDefEqProofs [S48i, R48i, ndR, loadM, hkn, x.ok.len, ib, hF.len, hda, hr2]
  ·rintro _ e
   have hz : fst (rngE ty.length fe.length l) l.length = 0 := by
    rcases hn with ⟨_, he⟩ | ⟨h, _⟩
    ·exact he
    ·omega
   rw [hz] at hres
   simp only [ne_eq, not_true_eq_false, if_false] at hres
   refine mc_runs ctw10b ?_
   cases hq : eqE l (fromL l 0) with
   | true =>
    rw [hq] at ge hres
    simp only [if_true] at hres
    simp -implicitDefEqProofs [S48, R48, loadM, ag, ag', tw10b, ge, hres]
   | false =>
    rw [hq] at ge hres
    simp only [Bool.false_eq_true, if_false] at hres
    simp -implicitDefEqProofs [S48, R48, loadM, ag, ag', tw10b, ge, hres]
 ·have hE' := neq_zero hE
  have hc : canonT l = .tu [.ag [nilS], iv (formE l)] := by unfold canonT; rw [if_pos hE]
  rw [hc] at gc
  have hres : check7E ty.length fe.length l = formE l := by unfold check7E; rw [if_pos hE]
  have cg : cellsP (.t (.ag [nilS])) = some [.t nilS] := rfl
  refine mc_runs ctw10b ?_
  simp -implicitDefEqProofs [loadM, ag, tw10b, gc, extractV, storeM, cg, splice, hE, hE', hres]
structure Valid (nt nf : Nat) (l : List Nd) : Prop where
 form : Form l
 type : ∀ x ∈ l, x.type < (nt : Int)
 feat : ∀ x ∈ l, ∀ a ∈ x.arcs, a.feat < (nf : Int)
 canon : l.map Nd.key = (fromL l 0).map Nd.key
theorem valid_of_check {nt nf : Nat} {l : List Nd} (h : check7E nt nf l = 0) : Valid nt nf l := by
 unfold check7E at h
 have hE : formE l = 0 := Classical.byContradiction fun h1 => by rw [if_pos h1] at h; exact h1 h
 rw [if_neg (by rw [hE]; simp)] at h
 have hR : fst (rngE nt nf l) l.length = 0 := Classical.byContradiction fun h1 => by rw [if_pos h1] at h; exact h1 h
 rw [if_neg (by rw [hR]; simp)] at h
 have hq : eqE l (fromL l 0) = true := by
  cases hq : eqE l (fromL l 0) with
  | true => rfl
  | false => rw [hq] at h; simp at h
 have key : ∀ x ∈ l, x.type < (nt : Int) ∧ ∀ a ∈ x.arcs, a.feat < (nf : Int) := by
  intro x hx
  obtain ⟨i, hi, e⟩ := List.getElem_of_mem hx
  have h1 := fst_zero hR i hi
  simp only [rngE, List.getElem?_eq_getElem hi, e] at h1
  split at h1
  ·cases h1
  ·refine ⟨by omega, fun a ha => ?_⟩
   obtain ⟨k, hk, e⟩ := List.getElem_of_mem ha
   have h2 := fst_zero h1 k hk
   simp only [rngA, List.getElem?_eq_getElem hk, e] at h2
   split at h2
   ·cases h2
   ·omega
 exact ⟨form_zero hE, fun x hx => (key x hx).1, fun x hx => (key x hx).2, eqE_iff.1 hq⟩
theorem Valid.par {nt nf : Nat} {l : List Nd} (h : Valid nt nf l) {j : Nat} (h0 : 0 < j) (hj : j < l.length) : ∃ (i : Nat) (z : Nd) (a : Arc), i < j ∧ l[i]? = some z ∧ a ∈ z.arcs ∧ a.to = (j : Int) := by
 have hk : ∀ i : Nat, (l[i]?).map Nd.key = ((fromL l 0)[i]?).map Nd.key := fun i => by rw [← List.getElem?_map, ← List.getElem?_map, h.canon]
 have hlen : (fromL l 0).length = l.length := by simpa using (congrArg List.length h.canon).symm
 obtain ⟨i, z, a, h1, h2, h3, h4⟩ := from_par h.form.to h.form.pos h0 (List.getElem?_eq_getElem (by omega : j < (fromL l 0).length))
 have := hk i
 rw [h2] at this
 obtain ⟨z', hz', e⟩ := map_opt this
 injection e with e1 e2
 exact ⟨i, z', a, h1, hz', by rw [e2]; exact h3, h4⟩
noncomputable def gSupers4 : List T → Option T := g2 (tSl eCo) tInt fun l i => open Classical in if l.length ≤ 256 ∧ (∀ x ∈ l, x.code.length ≤ 1000) ∧ 0 ≤ i ∧ i < (l.length : Int) then some (treeS eInt (supUp l i.toNat l.length)) else none
theorem gSupers4_ok : GOK Try.prog G 77 gSupers4 := g2_ok fun a b x y r ha hb hr => by
 obtain rfl : b = iv y := hb
 split at hr
 ·rename_i h
  injection hr with hr
  subst hr
  have e : y = (y.toNat : Int) := by omega
  have := supers4_call ha h.1 h.2.1 (i := y.toNat) (by omega)
  rw [← e] at this
  exact this
 ·cases hr
theorem gSupers4_eq {t : T} {l : List Co} (ht : IsS eCo t l) (hl : l.length ≤ 256) (hs : ∀ x ∈ l, x.code.length ≤ 1000) {i : Nat} (hi : i < l.length) : gSupers4 [t, iv (i : Int)] = some (treeS eInt (supUp l i l.length)) :=
 (g2_eq (τ := tSl eCo) (σ := tInt) ht rfl).trans (if_pos ⟨hl, hs, by omega, by omega⟩)
noncomputable def mkTyp (d : List TD) (i : Nat) (c : Co) : Typ := ⟨c.name, c.code, treeS eInt (supUp (codesL d) i (codesL d).length), apT d i⟩
noncomputable def tyUp (d : List TD) : Nat → List Typ
 | 0 => []
 | i + 1 => match (codesL d)[i]? with
  | some c => tyUp d i ++ [mkTyp d i c]
  | none => tyUp d i
noncomputable def hierL (d : List TD) : List Typ := tyUp d (codesL d).length
theorem tyUp_len (d : List TD) : ∀ {i}, i ≤ (codesL d).length → (tyUp d i).length = i
 | 0, _ => rfl
 | i + 1, h => by
  have hx : (codesL d)[i]? = some (codesL d)[i] := List.getElem?_eq_getElem (by omega)
  simp only [tyUp, hx, List.length_append, tyUp_len d (Nat.le_of_succ_le h), List.length_cons, List.length_nil]
theorem hierL_len (d : List TD) : (hierL d).length = (codesL d).length := tyUp_len d (Nat.le_refl _)
theorem tyUp_mem {d : List TD} {x : Typ} : ∀ {i}, x ∈ tyUp d i → ∃ c ∈ codesL d, x.code = c.code
 | 0, h => by cases h
 | i + 1, h => by
  simp only [tyUp] at h
  split at h
  ·rename_i c hc
   rcases List.mem_append.1 h with h | h
   ·exact tyUp_mem h
   ·rw [List.mem_singleton] at h
    subst h
    exact ⟨c, List.mem_of_getElem? hc, rfl⟩
  ·exact tyUp_mem h
theorem valUp_at (d : List TD) : ∀ {n i : Nat}, i < n → (valUp d n)[i]? = some (apT d i)
 | 0, i, h => by omega
 | n + 1, i, h => by
  unfold valUp
  rw [List.getElem?_append, length_valUp]
  by_cases e : i < n
  ·rw [if_pos e]; exact valUp_at d e
  ·have : i = n := by omega
   subst this
   rw [if_neg e]
   simp
noncomputable def compT (d : List TD) : T := if check5E d ≠ 0 then .tu [.ag [nilS, nilS], iv (check5E d)] else .tu [.ag [treeS eTyp (hierL d), treeS eFt (ftL d)], iv 0]
noncomputable def tb30 : Tbl := [(75, gD valsT), (76, gD codesT), (77, gSupers4), (78, gD featT)]
theorem ctx30 : Ctx Try.prog G (orc tb30) := (TblOK.cons (gD_ok values_call) (.cons (gD_ok codes_call) (.cons gSupers4_ok (.cons (gD_ok features_call) .nil)))).ctx mixed
theorem row_ag2 {α : Type} (e : Enc α) (ty b : Nat) (l : List α) (f y : T) : ∃ q, agOf [rowP e b l, .t f] = q ∧ cellsP q = some [rowP e b l, .t f] ∧ ∀ H, RowAt e ty H b l → toT H (oneOf [q, .t y]) = some (.tu [.ag [treeS e l, f], y], lentS b l) := by
 refine ⟨_, rfl, ?_, fun H h => ?_⟩
 ·cases l <;> rfl
 ·have ht := h.toT
  cases l with
  | nil => rfl
  | cons x r =>
   show toT H (.tu [.ag [rowP e b (x :: r), .t f], .t y]) = _
   simp only [Abs.toT, Abs.toTs, ht]
   simp [lentS]
noncomputable def R45 (ts : List Typ) : Heap := [(0, .cells 29 [.t nilS, .t nilS]), (1, .cells 29 [rowP eTyp 2 ts, .t nilS])]
noncomputable def S45 (t u v : T) (i : Nat) (ts : List Typ) : AState := ⟨[(9, .t (iv (i : Int))), (8, .ptr 1 0), (6, .t u), (4, .t v), (2, .ptr 0 0), (0, .t t)], R45 ts ++ rowH eTyp 105 2 ts, 3, 63⟩
theorem compile_call {t : T} {d : List TD} (ht : IsS eTD t d) (hd : DOK d) : CallT Try.prog G 45 [t] (· = compT d) := by
 have gV : gD valsT [t] = some (valsT d) := gD_eq ht hd
 have gC : gD codesT [t] = some (codesT d) := gD_eq ht hd
 have gF : gD featT [t] = some (featT d) := gD_eq ht hd
 refine k_r06_Compile.call rfl ?_
 unfold M_r06_Compile
 refine mc_seq_runs ctx30 ?_
 simp -implicitDefEqProofs
 by_cases hE : check5E d = 0
 ·have hF := fit_of_check hd hE
  have hll := hF.cod.len
  have hs' : ∀ x ∈ codesL d, x.code.length ≤ 1000 := fun x hx => by have := hF.cod.size x hx; omega
  obtain ⟨u, hu⟩ : ∃ u, u = treeS eCo (codesL d) := ⟨_, rfl⟩
  have hU : IsS eCo u (codesL d) := hu ▸ IsS.tree eCo _
  rw [hF.codes, ← hu] at gC
  obtain ⟨v, hv⟩ : ∃ v, v = treeS eTr (valUp d (codesL d).length) := ⟨_, rfl⟩
  have hV : IsS eTr v (valUp d (codesL d).length) := hv ▸ IsS.tree eTr _
  have hvT : valsT d = .tu [v, iv 0] := by unfold valsT; rw [if_neg (by rw [hE]; simp), hv]
  rw [hvT] at gV
  obtain ⟨f, hf⟩ : ∃ f, f = treeS eFt (ftL d) := ⟨_, rfl⟩
  have hfT : featT d = .tu [f, iv 0] := by unfold featT; rw [if_neg (by rw [hE]; simp), hf]
  rw [hfT] at gF
  have hz : eTyp.z = 4 := rfl
  refine mc_seq_runs ctx30 ?_
  simp -implicitDefEqProofs [tb30, gV, extractV]
  refine mc_seq_runs ctx30 ?_
  simp -implicitDefEqProofs
  refine mc_seq_runs ctx30 ?_
  simp -implicitDefEqProofs [tb30, gC, extractV]
  refine mc_seq_runs ctx30 ?_
  simp -implicitDefEqProofs
  refine mc_cut (fun _ : Unit => S45 t u v (codesL d).length (hierL d)) (fun _ => True) (fun _ => rfl) ?_ ?_
  ·refine mc_seq_runs ctx30 ?_
   simp -implicitDefEqProofs
   refine mc_block ?_
   refine mc_for (fun i => S45 t u v i (tyUp d i)) (codesL d).length (fun _ => rfl) ?_ rfl ?_ ?_
   ·refine sub_rowR (k := 2) (RowAt.nil _ _ _ _) (by omega) (by omega) (fun q hq => ?_) (by simp -implicitDefEqProofs [ren, under])
    simp only [R45, tyUp, List.mem_cons, List.not_mem_nil, or_false] at hq
    rcases hq with rfl | rfl <;> simp [rowP, renRow, renL, ren, underRow, underL, under]
   ·intro i hi
    obtain ⟨c, hc⟩ : ∃ c, (codesL d)[i]? = some c := ⟨_, List.getElem?_eq_getElem hi⟩
    have ic := ia_Co hU hc
    have hva := valUp_at d hi
    have iv' : iaddrM 1 (.t v) (.t (iv (i : Int))) = some (.t (.pt (apT d i :: rest eTr (valUp d (codesL d).length) i))) := hV.iaddr hva .i64
    have gs := gSupers4_eq hU hll hs' hi
    have e1 : IntKind.i64.wrap ((i : Int) + 1) = ((i + 1 : Nat) : Int) := wrap_nat (by omega) (by omega)
    have htl := tyUp_len d (Nat.le_of_lt hi)
    have hnext : tyUp d (i + 1) = tyUp d i ++ [mkTyp d i c] := by simp only [tyUp, hc]
    obtain ⟨ts, hts⟩ : ∃ ts, ts = tyUp d i := ⟨_, rfl⟩
    rw [← hts] at htl hnext
    obtain ⟨su, hsu⟩ : ∃ su, su = treeS eInt (supUp (codesL d) i (codesL d).length) := ⟨_, rfl⟩
    obtain ⟨va, hva'⟩ : ∃ va, va = apT d i := ⟨_, rfl⟩
    rw [← hsu] at gs
    rw [← hva'] at iv'
    have hcs : cellsP (.t su) = some [.t su] := by rw [hsu]; cases supUp (codesL d) i (codesL d).length <;> rfl
    have hcv : cellsP (.t va) = some [.t va] := by rw [hva']; unfold apT; cases apUp d i (feats d).length <;> rfl
    have hcb : cellsP (.t (encB c.code)) = some [.t (encB c.code)] := rfl
    have hcn : cellsP (.t (sv c.name)) = some [.t (sv c.name)] := rfl
    have fl : fillP (fun k => [(0, 1), (1, 1), (2, 1), (3, 1)][k]?) [.t (.v (.string ⟨#[]⟩)), .t nilS, .t nilS, .t nilS] [(0, .t (sv c.name)), (1, .t (encB c.code)), (2, .t su), (3, .t va)] = some [.t (sv c.name), .t (encB c.code), .t su, .t va] := by
     simp [fillP, hcs, hcv, hcb, hcn, splice]
    have ag : agOf [.t (sv c.name), .t (encB c.code), .t su, .t va] = .t (.ag [sv c.name, encB c.code, su, va]) := rfl
    have hen : eTyp.enc (mkTyp d i c) = [sv c.name, encB c.code, su, va] := by rw [hsu, hva']; rfl
    have ts1 : tsliceM 105 4 [.string ⟨#[]⟩, .slice none 0 0, .slice none 0 0, .slice none 0 0] 1 [(0, .t (.ag [sv c.name, encB c.code, su, va]))] = some (.t (treeS eTyp [mkTyp d i c])) := by
     have : treeS eTyp [mkTyp d i c] = .sl 1 [sv c.name, encB c.code, su, va] := by
      show slT eTyp [mkTyp d i c] = _
      unfold slT
      simp [hen]
     rw [this]
     rfl
    obtain ⟨H0, hH0⟩ : ∃ H0, H0 = R45 ts ++ rowH eTyp 105 2 ts := ⟨_, rfl⟩
    have l0 : Abs.look H0 0 = some (.cells 29 [.t nilS, .t nilS]) := by rw [hH0]; rfl
    have l1 : Abs.look H0 1 = some (.cells 29 [rowP eTyp 2 ts, .t nilS]) := by rw [hH0]; rfl
    have r2 : RowAt eTyp 105 H0 2 ts := by rw [hH0]; exact RowAt.right (RowAt.head' _ _ _ _) (by simp [R45])
    have ld1 : loadM false 1 H0 (.ptr 1 0) = some (rowP eTyp 2 ts) := by simp [loadM, l1]
    have lp : ∀ c cs, loadM false 1 H0 (.t (.pt (c :: cs))) = some (.t c) := fun _ _ => rfl
    have hsrc : srcP H0 eTyp.z (.t (treeS eTyp [mkTyp d i c])) = _ := src_tree (IsS.tree eTyp [mkTyp d i c])
    obtain ⟨b3, H3, n3, ap3, r3, ne3, le3, lk3, ge3⟩ := app_some (e := eTyp) (ty := 105) (by' := 88) (nx := 3) r2 hsrc (by simp; omega) (by simp; omega)
    rw [hz, ← hnext] at ap3
    rw [← hnext] at r3
    have m0 : Abs.look H3 0 = some (.cells 29 [.t nilS, .t nilS]) := by rw [lk3 0 (by omega) (by omega)]; exact l0
    have m1 : Abs.look H3 1 = some (.cells 29 [rowP eTyp 2 ts, .t nilS]) := by rw [lk3 1 (by omega) (by omega)]; exact l1
    have sto : storeM 1 H3 (.ptr 1 0) (rowP eTyp b3 (tyUp d (i + 1))) = some (upd H3 1 (.cells 29 [rowP eTyp b3 (tyUp d (i + 1)), .t nilS])) := by
     simp only [storeM, cells_rowP, m1]
     rfl
    refine mc_runs ctx30 ?_
    rw [← hts]
    simp -implicitDefEqProofs [S45, ← hH0, hi, hU.len, ld1, ic, iv', lp, tb30, gs, fl, ag, ts1, ap3, sto, e1]
    refine sub_rowR (b := 2) (k := b3) (nx' := 3) (r3.imp id fun h => by rw [look_upd, if_neg (by omega)]; exact h) (by omega) (by omega) (fun q hq => ?_) (by simp -implicitDefEqProofs [ren, under])
    simp only [R45, List.mem_cons, List.not_mem_nil, or_false] at hq
    rcases hq with rfl | rfl
    ·exact ⟨by rw [look_upd, if_neg (by omega), m0]; rfl, by omega, by omega, by show 0 ≠ b3; omega, rfl⟩
    ·exact ⟨by rw [look_upd, if_pos rfl, m1]; simp [renRow, renL, ren_rowP, ren], by omega, by omega, by show 1 ≠ b3; omega, by simp [underRow, underL, under_rowP, under]⟩
   ·refine mc_runs ctx30 ?_
    simp -implicitDefEqProofs [S45, hU.len]
    exact Next.mk () trivial (sub_env (by simp -implicitDefEqProofs))
  ·rintro _ -
   have hres : compT d = .tu [.ag [treeS eTyp (hierL d), f], iv 0] := by unfold compT; rw [if_neg (by rw [hE]; simp), hf]
   obtain ⟨ts, hts⟩ : ∃ ts, ts = hierL d := ⟨_, rfl⟩
   rw [← hts] at hres ⊢
   obtain ⟨q, hq1, hq2, hq3⟩ := row_ag2 eTyp 105 2 ts f (iv 0)
   obtain ⟨H0, hH0⟩ : ∃ H0, H0 = R45 ts ++ rowH eTyp 105 2 ts := ⟨_, rfl⟩
   have l0 : Abs.look H0 0 = some (.cells 29 [.t nilS, .t nilS]) := by rw [hH0]; rfl
   have l1 : Abs.look H0 1 = some (.cells 29 [rowP eTyp 2 ts, .t nilS]) := by rw [hH0]; rfl
   have r2 : RowAt eTyp 105 H0 2 ts := by rw [hH0]; exact RowAt.right (RowAt.head' _ _ _ _) (by simp [R45])
   have hcf : cellsP (.t f) = some [.t f] := by rw [hf]; cases ftL d <;> rfl
   have st1 : storeM 1 H0 (.ptr 1 1) (.t f) = some (upd H0 1 (.cells 29 [rowP eTyp 2 ts, .t f])) := by
    simp only [storeM, hcf, l1]
    rfl
   obtain ⟨H1, hH1⟩ : ∃ H1, H1 = upd H0 1 (.cells 29 [rowP eTyp 2 ts, .t f]) := ⟨_, rfl⟩
   rw [← hH1] at st1
   have k0 : Abs.look H1 0 = some (.cells 29 [.t nilS, .t nilS]) := by rw [hH1, look_upd, if_neg (by omega)]; exact l0
   have k1 : Abs.look H1 1 = some (.cells 29 [rowP eTyp 2 ts, .t f]) := by rw [hH1, look_upd, if_pos rfl, l1]; rfl
   have ld : loadM true 2 H1 (.ptr 1 0) = some q := by simp [loadM, k1, hq1]
   have st2 : storeM 2 H1 (.ptr 0 0) q = some (upd H1 0 (.cells 29 [rowP eTyp 2 ts, .t f])) := by
    simp only [storeM, hq2, k0]
    rfl
   obtain ⟨H2, hH2⟩ : ∃ H2, H2 = upd H1 0 (.cells 29 [rowP eTyp 2 ts, .t f]) := ⟨_, rfl⟩
   rw [← hH2] at st2
   have j0 : Abs.look H2 0 = some (.cells 29 [rowP eTyp 2 ts, .t f]) := by rw [hH2, look_upd, if_pos rfl, k0]; rfl
   have ld' : loadM true 2 H2 (.ptr 0 0) = some q := by simp [loadM, j0, hq1]
   have tt := hq3 H2 (r2.imp id fun h => by rw [hH2, look_upd, if_neg (by omega), hH1, look_upd, if_neg (by omega)]; exact h)
   refine mc_runs ctx30 ?_
   simp -implicitDefEqProofs [S45, ← hH0, tb30, gF, extractV, st1, ld, st2, ld', -oneOf, tt, hres]
 ·have hE' := neq_zero hE
  have hvT : valsT d = .tu [nilS, iv (check5E d)] := by unfold valsT; rw [if_pos hE]
  rw [hvT] at gV
  have hres : compT d = .tu [.ag [nilS, nilS], iv (check5E d)] := by unfold compT; rw [if_pos hE]
  have fl : fillP (fun k => [(0, 1), (1, 1)][k]?) [.t nilS, .t nilS] [] = some [.t nilS, .t nilS] := rfl
  have ag : agOf [.t nilS, .t nilS] = .t (.ag [nilS, nilS]) := rfl
  have cg : cellsP (.t (.ag [nilS, nilS])) = some [.t nilS, .t nilS] := rfl
  refine mc_seq_runs ctx30 ?_
  simp -implicitDefEqProofs [tb30, gV, extractV]
  refine mc_seq_runs ctx30 ?_
  simp -implicitDefEqProofs [loadM, storeM, splice, fl, ag, cg, hE, hE', hres]
end Go.Proofs.Ytbiadmfmjnoecaa
