/-
  From of the document: the canonical form of a graph.
-/
import Derived.Test.YtbiadmfmjnoecaaQ10
namespace Go.Proofs.Ytbiadmfmjnoecaa
set_option linter.unusedSimpArgs false
set_option linter.unusedVariables false
open Go Go.Abs
theorem frz_in {α : Type} {e : Enc α} {ty : Nat} {H : Heap} {b : Nat} {l : List α} (h : RowAt e ty H b l) {F : List Nat} (hF : b ∈ F) : frzP H F (rowP e b l) = .t (treeS e l) := by
 unfold frzP
 rw [h.toT]
 cases l with
 | nil => simp [lentS]
 | cons x r => simp [lentS, hF]
theorem row_ag {α : Type} (e : Enc α) (ty b : Nat) (l : List α) : ∃ q, agOf [rowP e b l] = q ∧ cellsP q = some [rowP e b l] ∧ ∀ H, RowAt e ty H b l → toT H q = some (.ag [treeS e l], lentS b l) := by
 refine ⟨_, rfl, ?_, fun H h => ?_⟩
 ·cases l <;> rfl
 ·have ht := h.toT
  cases l with
  | nil => rfl
  | cons x r =>
   show toT H (.ag [rowP e b (x :: r)]) = _
   simp only [Abs.toT, Abs.toTs, ht]
   simp [lentS]
theorem look_walkH {t : T} {a b c : Nat} {num ord : List Int} {R : Heap} {x : Nat} (ha : x ≠ a) (hb : x ≠ b) (hc : x ≠ c) : Abs.look (walkH t a b c num ord R) x = Abs.look R x := by
 unfold walkH
 rw [look_cons, if_neg (Ne.symm ha)]
 cases num <;> cases ord <;> simp [rowH, Ne.symm hb, Ne.symm hc]
def rep (n : Nat) : List Int := List.replicate n (-1)
theorem rep_succ (n : Nat) : rep (n + 1) = rep n ++ [-1] := List.replicate_succ'
def fsR (t : T) : Row := .cells 25 [.t t]
def F1R (t : T) (i : Nat) : Heap := [(0, fsR t), (1, fsR nilS), (2, walkR t 3 7 (rep i) [])]
def F1 (t : T) (root i : Nat) : AState := ⟨[(6, .t (iv (i : Int))), (5, .ptr 2 0), (4, .ptr 1 0), (2, .ptr 0 0), (1, .t (iv (root : Int)))], F1R t i ++ rowH eInt 3 3 (rep i), 8, 88⟩
def walkT (t tn to : T) : Row := .cells 138 [.t t, .t tn, .t to]
def K1 (t tn to : T) : AState := ⟨[(5, .ptr 2 0), (4, .ptr 1 0), (2, .ptr 0 0)], [(0, fsR t), (1, fsR nilS), (2, walkT t tn to)], 9, 88⟩
def outR (b : Nat) (g : List Nd) : Row := .cells 25 [rowP eNd b g]
def R2 (t tn to : T) (g : List Nd) : Heap := [(0, fsR t), (1, fsR nilS), (2, walkT t tn to), (9, outR 10 g)]
def F2 (t tn to : T) (i : Nat) (g : List Nd) : AState := ⟨[(8, .t (iv (i : Int))), (7, .ptr 9 0), (5, .ptr 2 0), (4, .ptr 1 0), (2, .ptr 0 0)], R2 t tn to g ++ rowH eNd 61 10 g, 11, 88⟩
def ndR (x : Nd) : Row := .cells 61 [.t (iv x.type), .t x.tree]
def R3 (t tn to : T) (g : List Nd) (x : Nd) : Heap := [(0, fsR t), (1, fsR nilS), (2, walkT t tn to), (9, outR 10 g), (11, ndR x)]
def mixA (num : List Int) (s : List Arc) (k : Nat) : List Arc := (renA num s).take k ++ s.drop k
def F3 (t tn to : T) (i : Nat) (g : List Nd) (x : Nd) (num : List Int) (k : Nat) : AState :=
 ⟨[(11, .t (iv (k : Int))), (10, rowP eArc 12 (mixA num (sortA x.arcs) k)), (9, .ptr 11 0), (8, .t (iv (i : Int))), (7, .ptr 9 0), (5, .ptr 2 0), (4, .ptr 1 0), (2, .ptr 0 0)],
  R3 t tn to g x ++ (rowH eNd 61 10 g ++ rowH eArc 81 12 (mixA num (sortA x.arcs) k)), 13, 88⟩
def F3m (t tn to tr : T) (i : Nat) (g : List Nd) (x : Nd) : AState :=
 ⟨[(10, .t tr), (9, .ptr 11 0), (8, .t (iv (i : Int))), (7, .ptr 9 0), (5, .ptr 2 0), (4, .ptr 1 0), (2, .ptr 0 0)], R3 t tn to g x ++ rowH eNd 61 10 g, 12, 88⟩
theorem mixA_len (num : List Int) (s : List Arc) {k : Nat} (hk : k ≤ s.length) : (mixA num s k).length = s.length := by
 have : (renA num s).length = s.length := by simp [renA]
 simp only [mixA, List.length_append, List.length_take, List.length_drop]
 omega
theorem mixA_at {num : List Int} {s : List Arc} {k : Nat} {a : Arc} (h : s[k]? = some a) : (mixA num s k)[k]? = some a ∧ (mixA num s k).set k ⟨a.feat, nAt num a.to.toNat⟩ = mixA num s (k + 1) := by
 have hk := (List.getElem?_eq_some_iff.1 h).1
 have hl : (renA num s).length = s.length := by simp [renA]
 have ht : ((renA num s).take k).length = k := by rw [List.length_take]; omega
 have hd : s.drop k = a :: s.drop (k + 1) := by
  rw [List.drop_eq_getElem_cons hk, (List.getElem?_eq_some_iff.1 h).2]
 have hr : (renA num s)[k]? = some ⟨a.feat, nAt num a.to.toNat⟩ := by simp [renA, h]
 constructor
 ·unfold mixA
  rw [List.getElem?_append_right (by omega), ht, hd]
  simp
 ·unfold mixA
  rw [List.set_append_right _ _ (by omega), ht, hd, List.take_add_one, hr]
  simp
theorem look_R3 {t tn to : T} {g : List Nd} {x : Nd} (R : Heap) : Abs.look (R3 t tn to g x ++ R) 0 = some (fsR t) ∧ Abs.look (R3 t tn to g x ++ R) 1 = some (fsR nilS) ∧ Abs.look (R3 t tn to g x ++ R) 2 = some (walkT t tn to) ∧ Abs.look (R3 t tn to g x ++ R) 9 = some (outR 10 g) ∧ Abs.look (R3 t tn to g x ++ R) 11 = some (ndR x) := ⟨rfl, rfl, rfl, rfl, rfl⟩
set_option maxRecDepth 100000 in
theorem from_call {t : T} {l : List Nd} (ht : IsS eNd t l) (hl : l.length ≤ 100000) (ha : ∀ x ∈ l, x.arcs.length ≤ 1000000) (hto : ∀ x ∈ l, ∀ a ∈ x.arcs, 0 ≤ a.to ∧ a.to < (l.length : Int)) {root : Nat} (hr : root < l.length) :
  CallT Try.prog G 68 [.ag [t], iv (root : Int)] (· = .ag [treeS eNd (fromL l root)]) := by
 have hz : eInt.z = 1 := rfl
 have cp : cellsP (.t (.ag [t])) = some [.t t] := rfl
 refine k_r07_From.call rfl ?_
 unfold M_r07_From
 refine mc_seq_runs cth5 ?_
 simp -implicitDefEqProofs [cp]
 have fl : fillP (fun k => [(0, 1), (1, 1), (2, 1)][k]?) [.t nilS, .t nilS, .t nilS] [(0, .t (.ag [t]))] = some [.t t, .t nilS, .t nilS] := rfl
 have ag : agOf [.t t, .t nilS, .t nilS] = .t (.ag [t, nilS, nilS]) := rfl
 have ag0 : agOf [.t t] = .t (.ag [t]) := rfl
 have cp3 : cellsP (.t (.ag [t, nilS, nilS])) = some [.t t, .t nilS, .t nilS] := rfl
 refine mc_seq_runs cth5 ?_
 simp -implicitDefEqProofs [loadM, ag0, fl, ag, cp3]
 refine mc_cut (fun _ : Unit => F1 t root l.length) (fun _ => True) (fun _ => rfl) ?_ ?_
 ·refine mc_seq_runs cth5 ?_
  simp -implicitDefEqProofs
  refine mc_block ?_
  refine mc_for (F1 t root) l.length (fun _ => rfl) ?_ rfl ?_ ?_
  ·refine sub_rowR (k := 3) (RowAt.nil _ _ _ _) (by omega) (by omega) (fun q hq => ?_) (by simp -implicitDefEqProofs [ren, under])
   simp [F1R] at hq
   rcases hq with rfl | rfl | rfl <;> simp [fsR, walkR, rep, rowP, renRow, renL, ren, underRow, underL, under]
  ·intro i hi
   have e1 : IntKind.i64.wrap ((i : Int) + 1) = ((i + 1 : Nat) : Int) := wrap_nat (by omega) (by omega)
   have hrl : (rep i).length = i := by simp [rep]
   obtain ⟨H0, hH0⟩ : ∃ H0, H0 = F1R t i ++ rowH eInt 3 3 (rep i) := ⟨_, rfl⟩
   have l0 : Abs.look H0 0 = some (fsR t) := by rw [hH0]; rfl
   have l1 : Abs.look H0 1 = some (fsR nilS) := by rw [hH0]; rfl
   have l2 : Abs.look H0 2 = some (walkR t 3 7 (rep i) []) := by rw [hH0]; rfl
   have r3 : RowAt eInt 3 H0 3 (rep i) := by rw [hH0]; exact RowAt.right (RowAt.head' _ _ _ _) (by simp [F1R])
   have ld0 : loadM false 1 H0 (.ptr 0 0) = some (.t t) := by simp [loadM, l0, fsR]
   have ld1 : loadM false 1 H0 (.ptr 2 1) = some (rowP eInt 3 (rep i)) := by simp [loadM, l2, walkR]
   have bs : bsliceM 3 1 [.int .i64 0] 1 [(0, .t (iv (-1)))] 8 = some (.row 8 0 1 1, .cells 3 ((eInt.enc (-1)).map .t)) := rfl
   obtain ⟨b2, H2, n2, ap2, r2, ne2, le2, lk2, ge2⟩ := app_some (e := eInt) (ty := 3) (by' := 8) (nx := 9) (m := [(-1 : Int)]) (r3.cons (k := 8) (r := .cells 3 ((eInt.enc (-1)).map .t)) (by omega)) (src_one (b := 8) (ty := 3) (-1) (by simp)) (by simp; omega) (by simp; omega)
   rw [hz, ← rep_succ] at ap2
   rw [← rep_succ] at r2
   have m0 : Abs.look H2 0 = some (fsR t) := by rw [lk2 0 (by omega) (by omega), look_cons, if_neg (by omega)]; exact l0
   have m1 : Abs.look H2 1 = some (fsR nilS) := by rw [lk2 1 (by omega) (by omega), look_cons, if_neg (by omega)]; exact l1
   have m2 : Abs.look H2 2 = some (walkR t 3 7 (rep i) []) := by rw [lk2 2 (by omega) (by omega), look_cons, if_neg (by omega)]; exact l2
   have st2 : storeM 1 H2 (.ptr 2 1) (rowP eInt b2 (rep (i + 1))) = some (upd H2 2 (walkR t b2 7 (rep (i + 1)) [])) := by
    simp only [storeM, cells_rowP, m2, walkR]
    rfl
   have r4 : RowAt eInt 3 (upd H2 2 (walkR t b2 7 (rep (i + 1)) [])) b2 (rep (i + 1)) := r2.imp id fun h => by rw [look_upd, if_neg (by omega)]; exact h
   refine mc_runs cth5 ?_
   unfold F1
   rw [← hH0]
   simp -implicitDefEqProofs [hi, ht.len, ld0, ld1, bs, ap2, st2, e1]
   refine sub_rowR (k := b2) r4 (by omega) (by omega) (fun q hq => ?_) (by simp -implicitDefEqProofs [ren, under])
   simp only [F1R, List.mem_cons, List.not_mem_nil, or_false] at hq
   rcases hq with rfl | rfl | rfl
   ·exact ⟨by rw [look_upd, if_neg (by omega), m0]; rfl, by omega, by omega, by show 0 ≠ b2; omega, rfl⟩
   ·exact ⟨by rw [look_upd, if_neg (by omega), m1]; rfl, by omega, by omega, by show 1 ≠ b2; omega, rfl⟩
   ·exact ⟨by rw [look_upd, if_pos rfl, m2, renRow_walkR]; rfl, by omega, by omega, by show 2 ≠ b2; omega, underRow_walkR _ _ _ (by omega) (by omega)⟩
  ·refine mc_runs cth5 ?_
   have ld0 : loadM false 1 (F1R t l.length ++ rowH eInt 3 3 (rep l.length)) (.ptr 0 0) = some (.t t) := rfl
   unfold F1
   simp -implicitDefEqProofs [ht.len, ld0]
   exact Next.mk () trivial (sub_env (by simp -implicitDefEqProofs))
 ·rintro _ -
  obtain ⟨H0, hH0⟩ : ∃ H0, H0 = F1R t l.length ++ rowH eInt 3 3 (rep l.length) := ⟨_, rfl⟩
  have l0 : Abs.look H0 0 = some (fsR t) := by rw [hH0]; rfl
  have l1 : Abs.look H0 1 = some (fsR nilS) := by rw [hH0]; rfl
  have l2 : Abs.look H0 2 = some (walkR t 3 7 (rep l.length) []) := by rw [hH0]; rfl
  have r3 : RowAt eInt 3 H0 3 (rep l.length) := by rw [hH0]; exact RowAt.right (RowAt.head' _ _ _ _) (by simp [F1R])
  have w0 : Walk t 2 3 7 (rep l.length) [] H0 := ⟨l2, r3, RowAt.nil _ _ _ _, by omega, by omega, by omega⟩
  have hneg : nAt (rep l.length) root < 0 := by unfold rep; rw [nAt_rep hr]; omega
  have vc := walk_lift (visit_call ht hl ha hto l.length root (rep l.length) [] (vi_rep l) hneg (by unfold rep; rw [negs_rep]; exact Nat.le_refl _)) w0 (NX := 8) (by omega) (by omega) (by omega)
  obtain ⟨st, hst⟩ : ∃ st, st = visA l root := ⟨_, rfl⟩
  have e : visF l l.length root (rep l.length, []) = st := hst.symm
  rw [e] at vc
  obtain ⟨H1, hH1⟩ : ∃ H1, H1 = walkH t 2 3 8 st.1 st.2 (rem (rem (rem H0 2) 3) 7) := ⟨_, rfl⟩
  have w1 : Walk t 2 3 8 st.1 st.2 H1 := by rw [hH1]; exact Walk.mk' _ _ _ _ (by omega) (by omega) (by omega)
  have k0 : Abs.look H1 0 = some (fsR t) := by
   rw [hH1, look_walkH (by omega) (by omega) (by omega), look_rem, if_neg (by omega), look_rem, if_neg (by omega), look_rem, if_neg (by omega)]
   exact l0
  have k1 : Abs.look H1 1 = some (fsR nilS) := by
   rw [hH1, look_walkH (by omega) (by omega) (by omega), look_rem, if_neg (by omega), look_rem, if_neg (by omega), look_rem, if_neg (by omega)]
   exact l1
  rw [← hH1] at vc
  have cv : Ctx Try.prog G (orh [] [(91, hOne [.ptr 2 0, .t (iv (root : Int))] H0 8 (.t (.tu []), H1, 8 + 1))]) := by
   refine TblOK.nil.ctxH (HTblOK.cons (hOne_ok vc fun hf b y hb => ?_) .nil) mixed
   rw [hH1] at hb
   rcases mem_walkH (mem_of_look hb) with e | ⟨_, e⟩ | ⟨_, e⟩ | hq
   ·injection e with e _; omega
   ·injection e with e _; omega
   ·injection e with e _; omega
   ·have := mem_rem (mem_rem (mem_rem hq))
    rw [hH0] at this
    rcases List.mem_append.1 this with hq | hq
    ·simp only [F1R, List.mem_cons, List.not_mem_nil, or_false, Prod.mk.injEq] at hq
     rcases hq with ⟨e, _⟩ | ⟨e, _⟩ | ⟨e, _⟩ <;> omega
    ·obtain ⟨_, e⟩ := mem_rowH hq
     injection e with e _; omega
  refine mc_seq_runs cv ?_
  unfold F1
  rw [← hH0]
  simp -implicitDefEqProofs [hOne_eq]
  obtain ⟨tn, htn⟩ : ∃ tn, tn = treeS eInt st.1 := ⟨_, rfl⟩
  obtain ⟨to, hto'⟩ : ∃ to, to = treeS eInt st.2 := ⟨_, rfl⟩
  have hN : IsS eInt tn st.1 := htn ▸ IsS.tree _ _
  have hO : IsS eInt to st.2 := hto' ▸ IsS.tree _ _
  refine MC.sub (s' := K1 t tn to) ?_ rfl ?_
  ·refine (sub_frz [3, 8]).trans ?_
   unfold K1 AState.frz
   have fz : ∀ (x : Nat) (r r' : Row), x ≠ 3 → x ≠ 8 → Abs.look H1 x = some r → frzRow H1 [3, 8] r = r' → Abs.look ((remAll H1 [3, 8]).map fun q => (q.1, frzRow H1 [3, 8] q.2)) x = some r' := by
    intro x r r' h3 h8 hx e
    have : Abs.look (remAll H1 [3, 8]) x = some r := by
     show Abs.look (rem (rem H1 3) 8) x = _
     rw [look_rem, if_neg h8, look_rem, if_neg h3, hx]
    rw [look_map, this, ← e]
    rfl
   refine sub_forget rfl rfl ?_ ?_
   ·simp -implicitDefEqProofs [frz_ptr]
   ·intro q hq
    simp only [List.mem_cons, List.not_mem_nil, or_false] at hq
    rcases hq with rfl | rfl | rfl
    ·exact fz 0 _ _ (by omega) (by omega) k0 (by simp [fsR, frzRow, frz_t])
    ·exact fz 1 _ _ (by omega) (by omega) k1 (by simp [fsR, frzRow, frz_t])
    ·refine fz 2 _ _ (by omega) (by omega) w1.walk ?_
     simp only [walkR, walkT, frzRow, List.map_cons, List.map_nil, frz_t, frz_in w1.num (F := [3, 8]) (by simp), frz_in w1.ord (F := [3, 8]) (by simp), ← htn, ← hto']
  ·obtain ⟨hvi, hvj⟩ := visA_ok hto hr
   rw [← hst] at hvi hvj
   have hzN : eNd.z = 2 := rfl
   have hzA : eArc.z = 2 := rfl
   obtain ⟨gs, hgs⟩ : ∃ gs, gs = fromL l root := ⟨_, rfl⟩
   have hgl : gs.length = st.2.length := by rw [hgs, hst]; simp [fromL]
   have hol : st.2.length ≤ l.length := by have := hvi.sum; omega
   refine mc_seq_runs cth5 ?_
   simp -implicitDefEqProofs [K1]
   refine mc_cut (fun _ : Unit => F2 t tn to st.2.length gs) (fun _ => True) (fun _ => rfl) ?_ ?_
   ·refine mc_seq_runs cth5 ?_
    simp -implicitDefEqProofs
    refine mc_block ?_
    refine mc_for (fun i => F2 t tn to i (gs.take i)) st.2.length (fun _ => rfl) ?_ rfl ?_ ?_
    ·refine sub_rowR (k := 10) (RowAt.nil _ _ _ _) (by omega) (by omega) (fun q hq => ?_) (by simp -implicitDefEqProofs [ren, under])
     simp only [R2, List.mem_cons, List.not_mem_nil, or_false] at hq
     rcases hq with rfl | rfl | rfl | rfl <;> simp [fsR, walkT, outR, rowP, renRow, renL, ren, underRow, underL, under]
    ·intro i hi
     obtain ⟨n, hn⟩ : ∃ n, st.2[i]? = some n := ⟨_, List.getElem?_eq_getElem hi⟩
     obtain ⟨hn0, hnl, _⟩ := hvj.at' i n hn
     obtain ⟨m, hm⟩ : ∃ m : Nat, n = (m : Int) := ⟨n.toNat, by omega⟩
     obtain ⟨x, hx⟩ : ∃ x, l[m]? = some x := ⟨_, List.getElem?_eq_getElem (by omega)⟩
     have hxm := List.mem_of_getElem? hx
     have hxa := ha x hxm
     have hnext : gs.take (i + 1) = gs.take i ++ [gNode st.1 x] := by
      have : gs[i]? = some (gNode st.1 x) := by
       rw [hgs]
       unfold fromL
       rw [← hst, List.getElem?_map, hn]
       simp [ndAt, hm, hx]
      rw [List.take_add_one, this]
      rfl
     have e1 : IntKind.i64.wrap ((i : Int) + 1) = ((i + 1 : Nat) : Int) := wrap_nat (by omega) (by omega)
     rw [hnext]
     have htl : (gs.take i).length ≤ i := by rw [List.length_take]; omega
     obtain ⟨g, hg⟩ : ∃ g, g = gs.take i := ⟨_, rfl⟩
     rw [← hg] at htl ⊢
     obtain ⟨sa, hsa⟩ : ∃ sa, sa = sortA x.arcs := ⟨_, rfl⟩
     have hsl : sa.length = x.arcs.length := by rw [hsa]; exact sortA_len _
     obtain ⟨tr, htr⟩ : ∃ tr, tr = treeS eArc (renA st.1 sa) := ⟨_, rfl⟩
     obtain ⟨H0, hH0⟩ : ∃ H0, H0 = R2 t tn to g ++ rowH eNd 61 10 g := ⟨_, rfl⟩
     have l0 : Abs.look H0 0 = some (fsR t) := by rw [hH0]; rfl
     have l1 : Abs.look H0 1 = some (fsR nilS) := by rw [hH0]; rfl
     have l2 : Abs.look H0 2 = some (walkT t tn to) := by rw [hH0]; rfl
     have l9 : Abs.look H0 9 = some (outR 10 g) := by rw [hH0]; rfl
     have r10 : RowAt eNd 61 H0 10 g := by rw [hH0]; exact RowAt.right (RowAt.head' _ _ _ _) (by simp [R2])
     have ld0 : loadM false 1 H0 (.ptr 0 0) = some (.t t) := by simp [loadM, l0, fsR]
     have ld2 : loadM false 1 H0 (.ptr 2 2) = some (.t to) := by simp [loadM, l2, walkT]
     have io : iaddrM 1 (.t to) (.t (iv (i : Int))) = some (.t (.pt (iv (m : Int) :: rest eInt st.2 i))) := by rw [← hm]; exact hO.iaddr hn .i64
     have ix := ia_Nd ht hx
     have lp : ∀ c cs, loadM false 1 H0 (.t (.pt (c :: cs))) = some (.t c) := fun _ _ => rfl
     have la : ∀ cs, loadM true 2 H0 (.t (.pt (iv x.type :: x.tree :: cs))) = some (.t (.ag [iv x.type, x.tree])) := fun cs => by simp [loadM]
     have cx : cellsP (.t (.ag [iv x.type, x.tree])) = some [.t (iv x.type), .t x.tree] := rfl
     refine mc_seq_runs cth5 ?_
     simp -implicitDefEqProofs [F2, ← hH0, hi, ld2, hO.len]
     refine mc_cut (fun _ : Unit => F2 t tn to i (g ++ [gNode st.1 x])) (fun _ => True) (fun _ => rfl) ?_ ?_
     ·refine mc_block ?_
      refine mc_seq_runs cth5 ?_
      simp -implicitDefEqProofs [ld0, ld2, io, lp, ix, la, storeM, cx, splice]
      have hso := hSorted_eq x.ok hxa ((11, ndR x) :: H0) 12
      rw [← hsa] at hso
      unfold ndR at hso
      refine mc_seq_runs cth5 ?_
      simp -implicitDefEqProofs [loadM, hw5, hso]
      refine mc_cut (fun _ : Unit => F3m t tn to tr i g x) (fun _ => True) (fun _ => rfl) ?_ ?_
      ·refine mc_seq_runs cth5 ?_
       simp -implicitDefEqProofs
       refine mc_block ?_
       refine mc_for (F3 t tn to i g x st.1) sa.length (fun _ => rfl) ?_ rfl ?_ ?_
       ·have m0 : mixA st.1 sa 0 = sa := by simp [mixA]
        unfold F3
        rw [← hsa, m0]
        have h12 : RowAt eArc 81 (rowH eArc 81 12 sa ++ ((11, ndR x) :: H0)) 12 sa := RowAt.head _ _ _ _ _
        have h10 : RowAt eNd 61 (rowH eArc 81 12 sa ++ ((11, ndR x) :: H0)) 10 g := (r10.cons (by omega)).left (by omega)
        have lk : ∀ c, c ≠ 12 → Abs.look (rowH eArc 81 12 sa ++ ((11, ndR x) :: H0)) c = Abs.look ((11, ndR x) :: H0) c := by
         intro c hc
         cases sa with
         | nil => rfl
         | cons y r => simp [rowH, Ne.symm hc]
        refine sub_rowR2 (k := 12) h12 h10 (by omega) (by omega) (by omega) (by omega) (by omega) (fun q hq => ?_) (by simp -implicitDefEqProofs [ren_rowP, under_rowP, ren, under])
        simp only [R3, List.mem_cons, List.not_mem_nil, or_false] at hq
        rcases hq with rfl | rfl | rfl | rfl | rfl
        ·exact ⟨(lk 0 (by omega)).trans (by rw [look_cons, if_neg (by omega), l0]; rfl), by omega, by omega, by omega, rfl⟩
        ·exact ⟨(lk 1 (by omega)).trans (by rw [look_cons, if_neg (by omega), l1]; rfl), by omega, by omega, by omega, rfl⟩
        ·exact ⟨(lk 2 (by omega)).trans (by rw [look_cons, if_neg (by omega), l2]; rfl), by omega, by omega, by omega, rfl⟩
        ·exact ⟨(lk 9 (by omega)).trans (by rw [look_cons, if_neg (by omega), l9]; simp [outR, renRow, renL, ren_rowP]), by omega, by omega, by omega, by simp [outR, underRow, underL, under_rowP]⟩
        ·exact ⟨(lk 11 (by omega)).trans (by rw [look_cons, if_pos rfl]; rfl), by omega, by omega, by omega, rfl⟩
       ·intro k hk
        obtain ⟨a, hak⟩ : ∃ a, sa[k]? = some a := ⟨_, List.getElem?_eq_getElem hk⟩
        have ham : a ∈ x.arcs := sortA_mem.1 (by rw [← hsa]; exact List.mem_of_getElem? hak)
        obtain ⟨h0, h1⟩ := hto x hxm a ham
        obtain ⟨m', hm'⟩ : ∃ m' : Nat, a.to = (m' : Int) := ⟨a.to.toNat, by omega⟩
        have e2 : IntKind.i64.wrap ((k : Int) + 1) = ((k + 1 : Nat) : Int) := wrap_nat (by omega) (by omega)
        obtain ⟨hmk, hset⟩ := mixA_at (num := st.1) hak
        have hgm : st.1[m']? = some (nAt st.1 m') := by
         unfold nAt
         rw [List.getD_eq_getElem?_getD, List.getElem?_eq_getElem (by rw [hvi.len]; omega)]
         rfl
        have iN : iaddrM 1 (.t tn) (.t (iv (m' : Int))) = some (.t (.pt (iv (nAt st.1 m') :: rest eInt st.1 m'))) := hN.iaddr hgm .i64
        have hto2 : a.to.toNat = m' := by omega
        rw [hto2] at hset
        obtain ⟨mx, hmx⟩ : ∃ mx, mx = mixA st.1 sa k := ⟨_, rfl⟩
        have hmxl : mx.length = sa.length := by rw [hmx]; exact mixA_len _ _ (by omega)
        rw [← hmx] at hmk hset
        obtain ⟨Hk, hHk⟩ : ∃ Hk, Hk = R3 t tn to g x ++ (rowH eNd 61 10 g ++ rowH eArc 81 12 mx) := ⟨_, rfl⟩
        have q0 : Abs.look Hk 0 = some (fsR t) := by rw [hHk]; rfl
        have q1 : Abs.look Hk 1 = some (fsR nilS) := by rw [hHk]; rfl
        have q2 : Abs.look Hk 2 = some (walkT t tn to) := by rw [hHk]; rfl
        have q9 : Abs.look Hk 9 = some (outR 10 g) := by rw [hHk]; rfl
        have q11 : Abs.look Hk 11 = some (ndR x) := by rw [hHk]; rfl
        have hR10 : ∀ q ∈ rowH eNd 61 10 g, q.1 ≠ 12 := fun q hq => by obtain ⟨_, rfl⟩ := mem_rowH hq; show 10 ≠ 12; omega
        have q12 : RowAt eArc 81 Hk 12 mx := by
         rw [hHk, ← List.append_assoc]
         refine RowAt.right (RowAt.head' _ _ _ _) (fun q hq => ?_)
         rcases List.mem_append.1 hq with hq | hq
         ·simp only [R3, List.mem_cons, List.not_mem_nil, or_false] at hq
          rcases hq with rfl | rfl | rfl | rfl | rfl <;> simp
         ·exact hR10 q hq
        have q10 : RowAt eNd 61 Hk 10 g := by
         rw [hHk]
         exact RowAt.right (RowAt.head _ _ _ _ _) (by simp [R3])
        have ld : loadM false 1 Hk (.ptr 2 1) = some (.t tn) := by simp [loadM, q2, walkT]
        have lp : ∀ c cs, loadM false 1 Hk (.t (.pt (c :: cs))) = some (.t c) := fun _ _ => rfl
        have ic := iaddr_rowP (e := eArc) (b := 12) hmk .i64
        have ly := q12.load (off := 1) (c := iv (m' : Int)) hmk (by rw [← hm']; rfl)
        have q12' : Abs.look Hk 12 = some (rowOf eArc 81 mx) := q12.resolve_left (fun h => by rw [h] at hmxl; simp at hmxl; omega)
        have sto := row_store (e := eArc) (off := 1) (y := ⟨a.feat, nAt st.1 m'⟩) (c := iv (nAt st.1 m')) q12' hmk (by decide) rfl rfl
        rw [hset] at sto
        rw [hzA] at ic ly sto
        have hrow : rowP eArc 12 mx = rowP eArc 12 (mixA st.1 sa (k + 1)) := rowP_len _ _ (by rw [hmxl, mixA_len _ _ (by omega)])
        have hml : (mixA st.1 sa k).length = sa.length := mixA_len _ _ (by omega)
        refine mc_runs cth5 ?_
        unfold F3
        rw [← hsa, ← hmx, ← hHk]
        simp -implicitDefEqProofs [hk, hmxl, len_rowP, ld, lp, ic, ly, iN, sto, e2]
        have h12 : RowAt eArc 81 (upd Hk 12 (rowOf eArc 81 (mixA st.1 sa (k + 1)))) 12 (mixA st.1 sa (k + 1)) := .inr (by rw [look_upd, if_pos rfl, q12']; rfl)
        have h10 : RowAt eNd 61 (upd Hk 12 (rowOf eArc 81 (mixA st.1 sa (k + 1)))) 10 g := q10.imp id fun h => by rw [look_upd, if_neg (by omega)]; exact h
        refine sub_rowR2 (k := 12) (b := 12) (nx' := 13) h12 h10 (by omega) (by omega) (by omega) (by omega) (by omega) (fun q hq => ?_) (by simp -implicitDefEqProofs [ren_rowP, under_rowP, ren, under, hrow])
        simp only [R3, List.mem_cons, List.not_mem_nil, or_false] at hq
        rcases hq with rfl | rfl | rfl | rfl | rfl
        ·exact ⟨by rw [look_upd, if_neg (by omega), q0]; rfl, by omega, by omega, by omega, rfl⟩
        ·exact ⟨by rw [look_upd, if_neg (by omega), q1]; rfl, by omega, by omega, by omega, rfl⟩
        ·exact ⟨by rw [look_upd, if_neg (by omega), q2]; rfl, by omega, by omega, by omega, rfl⟩
        ·exact ⟨by rw [look_upd, if_neg (by omega), q9]; simp [outR, renRow, renL, ren_rowP], by omega, by omega, by omega, by simp [outR, underRow, underL, under_rowP]⟩
        ·exact ⟨by rw [look_upd, if_neg (by omega), q11]; rfl, by omega, by omega, by omega, rfl⟩
       ·have hmE : mixA st.1 sa sa.length = renA st.1 sa := by
         have : (renA st.1 sa).length = sa.length := by simp [renA]
         unfold mixA
         rw [List.drop_length, List.append_nil, ← this, List.take_length]
        have hRl : (renA st.1 sa).length = sa.length := by simp [renA]
        refine mc_runs cth5 ?_
        unfold F3
        rw [← hsa, hmE]
        obtain ⟨Hk, hHk⟩ : ∃ Hk, Hk = R3 t tn to g x ++ (rowH eNd 61 10 g ++ rowH eArc 81 12 (renA st.1 sa)) := ⟨_, rfl⟩
        have hR10 : ∀ q ∈ rowH eNd 61 10 g, q.1 ≠ 12 := fun q hq => by obtain ⟨_, rfl⟩ := mem_rowH hq; show 10 ≠ 12; omega
        have q12 : RowAt eArc 81 Hk 12 (renA st.1 sa) := by
         rw [hHk, ← List.append_assoc]
         refine RowAt.right (RowAt.head' _ _ _ _) (fun q hq => ?_)
         rcases List.mem_append.1 hq with hq | hq
         ·simp only [R3, List.mem_cons, List.not_mem_nil, or_false] at hq
          rcases hq with rfl | rfl | rfl | rfl | rfl <;> simp
         ·exact hR10 q hq
        have q10 : RowAt eNd 61 Hk 10 g := by
         rw [hHk]
         exact RowAt.right (RowAt.head _ _ _ _ _) (by simp [R3])
        have fz : ∀ (c : Nat) (r r' : Row), c ≠ 12 → Abs.look Hk c = some r → frzRow Hk [12] r = r' → Abs.look ((remAll Hk [12]).map fun q => (q.1, frzRow Hk [12] q.2)) c = some r' := by
         intro c r r' hc hx e
         have : Abs.look (remAll Hk [12]) c = some r := by
          show Abs.look (rem Hk 12) c = _
          rw [look_rem, if_neg hc, hx]
         rw [look_map, this, ← e]
         rfl
        rw [← hHk]
        simp -implicitDefEqProofs [len_rowP, hRl]
        refine Next.mk () trivial ((sub_frz [12]).trans ?_)
        unfold F3m AState.frz
        refine sub_rowR (k := 10) (RowAt.frz q10 (c := 12) (by omega)) (by omega) (by omega) (fun q hq => ?_) ?_
        ·simp only [R3, List.mem_cons, List.not_mem_nil, or_false] at hq
         rcases hq with rfl | rfl | rfl | rfl | rfl
         ·exact ⟨fz 0 (fsR t) _ (by omega) (by rw [hHk]; rfl) (by simp [fsR, frzRow, frz_t, renRow, renL, ren]), by omega, by omega, by omega, rfl⟩
         ·exact ⟨fz 1 (fsR nilS) _ (by omega) (by rw [hHk]; rfl) (by simp [fsR, frzRow, frz_t, renRow, renL, ren]), by omega, by omega, by omega, rfl⟩
         ·exact ⟨fz 2 (walkT t tn to) _ (by omega) (by rw [hHk]; rfl) (by simp [walkT, frzRow, frz_t, renRow, renL, ren]), by omega, by omega, by omega, rfl⟩
         ·exact ⟨fz 9 (outR 10 g) _ (by omega) (by rw [hHk]; rfl) (by simp [outR, frzRow, frz_other q10 (c := 12) (by omega), renRow, renL, ren_rowP]), by omega, by omega, by omega, by simp [outR, underRow, underL, under_rowP]⟩
         ·exact ⟨fz 11 (ndR x) _ (by omega) (by rw [hHk]; rfl) (by simp [ndR, frzRow, frz_t, renRow, renL, ren]), by omega, by omega, by omega, rfl⟩
        ·simp -implicitDefEqProofs [frz_row q12, frz_t, frz_ptr, ren, under, ← htr]
      ·rintro _ -
       obtain ⟨Hm, hHm⟩ : ∃ Hm, Hm = R3 t tn to g x ++ rowH eNd 61 10 g := ⟨_, rfl⟩
       have q0 : Abs.look Hm 0 = some (fsR t) := by rw [hHm]; rfl
       have q1 : Abs.look Hm 1 = some (fsR nilS) := by rw [hHm]; rfl
       have q2 : Abs.look Hm 2 = some (walkT t tn to) := by rw [hHm]; rfl
       have q9 : Abs.look Hm 9 = some (outR 10 g) := by rw [hHm]; rfl
       have q11 : Abs.look Hm 11 = some (ndR x) := by rw [hHm]; rfl
       have q10 : RowAt eNd 61 Hm 10 g := by
        rw [hHm]
        exact RowAt.right (RowAt.head' _ _ _ _) (by simp [R3])
       have ld9 : loadM false 1 Hm (.ptr 9 0) = some (rowP eNd 10 g) := by simp [loadM, q9, outR]
       have ld11 : loadM false 1 Hm (.ptr 11 0) = some (.t (iv x.type)) := by simp [loadM, q11, ndR]
       have fl : fillP (fun k => [(0, 1), (1, 1)][k]?) [.t (.v (.int .i64 0)), .t nilS] [(0, .t (iv x.type)), (1, .t tr)] = some [.t (iv x.type), .t tr] := by
        rw [htr]
        cases renA st.1 sa <;> rfl
       have ag : agOf [.t (iv x.type), .t tr] = .t (.ag [iv x.type, tr]) := rfl
       have hen : eNd.enc (gNode st.1 x) = [iv x.type, tr] := by rw [htr, hsa]; rfl
       have bs : bsliceM 61 2 [.int .i64 0, .slice none 0 0] 1 [(0, .t (.ag [iv x.type, tr]))] 12 = some (.row 12 0 1 2, .cells 61 ((eNd.enc (gNode st.1 x)).map .t)) := by
        rw [hen, htr]
        cases renA st.1 sa <;> rfl
       obtain ⟨b2, H2, n2, ap2, r2, ne2, le2, lk2, ge2⟩ := app_some (e := eNd) (ty := 61) (by' := 32) (nx := 13) (m := [gNode st.1 x]) (q10.cons (k := 12) (r := .cells 61 ((eNd.enc (gNode st.1 x)).map .t)) (by omega)) (src_one (b := 12) (ty := 61) (gNode st.1 x) (by simp)) (by simp; omega) (by simp; omega)
       rw [hzN] at ap2
       have m9 : Abs.look H2 9 = some (outR 10 g) := by rw [lk2 9 (by omega) (by omega), look_cons, if_neg (by omega)]; exact q9
       have sto : storeM 1 H2 (.ptr 9 0) (rowP eNd b2 (g ++ [gNode st.1 x])) = some (upd H2 9 (outR b2 (g ++ [gNode st.1 x]))) := by
        simp only [storeM, cells_rowP, m9, outR]
        rfl
       refine mc_runs cth5 ?_
       simp -implicitDefEqProofs [F3m, ← hHm, ld9, ld11, fl, ag, bs, ap2, sto]
       refine Next.mk () trivial ?_
       refine sub_rowR (k := b2) (r2.imp id fun h => by rw [look_upd, if_neg (by omega)]; exact h) (by omega) (by omega) (fun q hq => ?_) (by simp -implicitDefEqProofs [ren, under])
       simp only [R2, List.mem_cons, List.not_mem_nil, or_false] at hq
       rcases hq with rfl | rfl | rfl | rfl
       ·exact ⟨by rw [look_upd, if_neg (by omega), lk2 0 (by omega) (by omega), look_cons, if_neg (by omega), q0]; rfl, by omega, by omega, by show 0 ≠ b2; omega, rfl⟩
       ·exact ⟨by rw [look_upd, if_neg (by omega), lk2 1 (by omega) (by omega), look_cons, if_neg (by omega), q1]; rfl, by omega, by omega, by show 1 ≠ b2; omega, rfl⟩
       ·exact ⟨by rw [look_upd, if_neg (by omega), lk2 2 (by omega) (by omega), look_cons, if_neg (by omega), q2]; rfl, by omega, by omega, by show 2 ≠ b2; omega, rfl⟩
       ·exact ⟨by rw [look_upd, if_pos rfl, m9]; simp [outR, renRow, renL, ren_rowP], by omega, by omega, by show 9 ≠ b2; omega, by simp [outR, underRow, underL, under_rowP]⟩
     ·rintro _ -
      refine mc_runs cth5 ?_
      simp -implicitDefEqProofs [F2, e1]
      exact sub_env (by simp -implicitDefEqProofs)
    ·refine mc_runs cth5 ?_
     have ld2 : ∀ g, loadM false 1 (R2 t tn to g ++ rowH eNd 61 10 g) (.ptr 2 2) = some (.t to) := fun _ => rfl
     have htk : gs.take st.2.length = gs := by rw [← hgl, List.take_length]
     simp -implicitDefEqProofs [F2, ld2, hO.len, htk]
     exact Next.mk () trivial (sub_env (by simp -implicitDefEqProofs))
   ·rintro _ -
    obtain ⟨q, hq1, hq2, hq3⟩ := row_ag eNd 61 10 gs
    obtain ⟨H0, hH0⟩ : ∃ H0, H0 = R2 t tn to gs ++ rowH eNd 61 10 gs := ⟨_, rfl⟩
    have l1 : Abs.look H0 1 = some (fsR nilS) := by rw [hH0]; rfl
    have l9 : Abs.look H0 9 = some (outR 10 gs) := by rw [hH0]; rfl
    have r10 : RowAt eNd 61 H0 10 gs := by rw [hH0]; exact RowAt.right (RowAt.head' _ _ _ _) (by simp [R2])
    have ld : loadM true 1 H0 (.ptr 9 0) = some q := by simp [loadM, l9, outR, hq1]
    have sto : storeM 1 H0 (.ptr 1 0) q = some (upd H0 1 (outR 10 gs)) := by
     simp only [storeM, hq2, l1, fsR]
     rfl
    have l1' : Abs.look (upd H0 1 (outR 10 gs)) 1 = some (outR 10 gs) := by rw [look_upd, if_pos rfl, l1]; rfl
    have ld' : loadM true 1 (upd H0 1 (outR 10 gs)) (.ptr 1 0) = some q := by
     simp only [loadM, l1']
     simp [outR, hq1]
    have tt := hq3 (upd H0 1 (outR 10 gs)) (r10.imp id fun h => by rw [look_upd, if_neg (by omega)]; exact h)
    refine mc_runs cth5 ?_
    rw [← hgs]
    simp -implicitDefEqProofs [F2, ← hH0, ld, sto, ld', tt]
end Go.Proofs.Ytbiadmfmjnoecaa
