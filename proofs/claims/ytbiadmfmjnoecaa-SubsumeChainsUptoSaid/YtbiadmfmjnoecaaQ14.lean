/-
  Map of the program: the morphism, if there is one.
-/
import Derived.Test.YtbiadmfmjnoecaaQ13
namespace Go.Proofs.Ytbiadmfmjnoecaa
set_option linter.unusedSimpArgs false
set_option linter.unusedVariables false
open Go Go.Abs
theorem zeros_int (n : Nat) : zeros [.int .i64 0] n = ((List.replicate n (0 : Int)).flatMap eInt.enc).map .t := by
 refine List.ext_getElem? fun j => ?_
 have hl : (zeros [Value.int .i64 0] n).length = n := by rw [length_zeros]; simp
 have hr : (((List.replicate n (0 : Int)).flatMap eInt.enc).map PV.t).length = n := by rw [List.length_map, length_flat]; simp [eInt]
 by_cases h : j < n
 ·obtain ⟨c, hc⟩ : ∃ c, (zeros [Value.int .i64 0] n)[j]? = some c := ⟨_, List.getElem?_eq_getElem (by omega)⟩
  have := (zeros_at hc).2
  rw [hc, this]
  have e : ((List.replicate n (0 : Int)).flatMap eInt.enc).map PV.t = List.replicate n (.t (iv 0)) := by
   clear hc this hl hr h
   induction n with
   | zero => rfl
   | succ n ih =>
    rw [List.replicate_succ, List.replicate_succ, List.flatMap_cons, List.map_append, ih]
    rfl
  rw [e, List.getElem?_replicate, if_pos h]
  simp [Nat.mod_one]
 ·rw [List.getElem?_eq_none (by omega), List.getElem?_eq_none (by omega)]
theorem make_int {n nx : Nat} (h0 : 0 < n) (h : n ≤ 1000000) : makeM 3 1 8 [.int .i64 0] (.t (iv (n : Int))) (.t (iv (n : Int))) nx = some (rowP eInt nx (List.replicate n 0), rowOf eInt 3 (List.replicate n 0)) := by
 have hp : rowP eInt nx (List.replicate n (0 : Int)) = .row nx 0 n 1 := by
  obtain ⟨k, rfl⟩ : ∃ k, n = k + 1 := ⟨n - 1, by omega⟩
  rw [List.replicate_succ]
  simp [rowP, eInt]
 rw [hp]
 simp only [makeM, Int.toNat_natCast]
 rw [if_pos ⟨by omega, by omega, by omega, by omega⟩, zeros_int]
 rfl
theorem load_int {H : Heap} {b : Nat} {l : List Int} (h : RowAt eInt 3 H b l) {i : Nat} (hi : i < l.length) : loadM false 1 H (.ptr b i) = some (.t (iv (nAt l i))) := by
 have := h.load (off := 0) (c := iv (nAt l i)) (nAt_get hi) rfl
 simpa [eInt] using this
theorem iaddr_int {b : Nat} {l : List Int} {i : Nat} (hi : i < l.length) : iaddrM 1 (rowP eInt b l) (.t (iv (i : Int))) = some (.ptr b i) := by
 have := iaddr_rowP (e := eInt) (b := b) (nAt_get hi) .i64
 simpa [eInt] using this
theorem store_int {H : Heap} {b : Nat} {l : List Int} (h : RowAt eInt 3 H b l) {i : Nat} (hi : i < l.length) (v : Int) : storeM 1 H (.ptr b i) (.t (iv v)) = some (upd H b (rowOf eInt 3 (l.set i v))) := by
 have := row_store (e := eInt) (ty := 3) (off := 0) (y := v) (c := iv v) (h.resolve_left (fun e => by rw [e] at hi; simp at hi)) (nAt_get hi) (by decide) rfl rfl
 simpa [eInt] using this
theorem RowAt.upd_int {H : Heap} {b : Nat} {l : List Int} (h : RowAt eInt 3 H b l) {i : Nat} (hi : i < l.length) (v : Int) : RowAt eInt 3 (upd H b (rowOf eInt 3 (l.set i v))) b (l.set i v) := by
 right
 rw [look_upd, if_pos rfl, h.resolve_left (fun e => by rw [e] at hi; simp at hi)]
 rfl
theorem nAt_set_self {m : List Int} {i : Nat} (h : i < m.length) {v : Int} : nAt (m.set i v) i = v := by rw [nAt_set h, if_pos rfl]
theorem done_pos {nt nf : Nat} {ty : List Typ} {a b : List Nd} {m : List Int} (ha : Valid nt nf a) (hp : PM ty a b m) {i : Nat} (hi : i < a.length) (hd : ∀ j, j < i → Done ty a b m j) : 0 ≤ nAt m i := by
 by_cases h0 : i = 0
 ·rw [h0, hp.root]; omega
 ·obtain ⟨j, z, c, h1, h2, h3, h4⟩ := ha.par (by omega : 0 < i) hi
  have := ((hd j h1).arc z h2 c h3).2
  have e : c.to.toNat = i := by omega
  rw [e] at this
  exact this
theorem pm_start {nt nf : Nat} {ty : List Typ} {a b : List Nd} (ha : Valid nt nf a) (hb : Valid nt nf b) : PM ty a b ((rep a.length).set 0 0) := by
 have hpos := ha.form.pos
 have hbp := hb.form.pos
 have hl : 0 < (rep a.length).length := by simp [rep]; omega
 have hs : ∀ j, nAt ((rep a.length).set 0 0) j = if j = 0 then 0 else nAt (rep a.length) j := fun j => nAt_set hl
 have hr : ∀ j, nAt (rep a.length) j < 0 ∨ nAt (rep a.length) j = 0 ∧ a.length ≤ j := by
  intro j
  by_cases h : j < a.length
  ·left; unfold rep; rw [nAt_rep h]; omega
  ·right
   refine ⟨?_, by omega⟩
   unfold nAt
   rw [List.getD_eq_getElem?_getD, List.getElem?_eq_none (by simp [rep]; omega)]
   rfl
 refine ⟨by simp [rep], by rw [hs, if_pos rfl], fun j => ?_, fun m' hm' j hj hp => ?_⟩
 ·rw [hs]
  split
  ·exact .inr ⟨by omega, by omega⟩
  ·rcases hr j with h | ⟨h, _⟩
   ·exact .inl h
   ·rw [h]; exact .inr ⟨by omega, by omega⟩
 ·rw [hs] at hp ⊢
  split
  ·rename_i e
   rw [e, hm'.root]
  ·rename_i e
   rw [if_neg e] at hp
   rcases hr j with h | ⟨_, h⟩ <;> omega
def mFill (n j : Nat) : List Int := List.replicate j (-1) ++ List.replicate (n - j) 0
theorem mFill_len {n j : Nat} (h : j ≤ n) : (mFill n j).length = n := by simp [mFill]; omega
theorem mFill_zero (n : Nat) : mFill n 0 = List.replicate n 0 := by simp [mFill]
theorem mFill_all (n : Nat) : mFill n n = rep n := by simp [mFill, rep]
theorem mFill_set {n j : Nat} (h : j < n) : (mFill n j).set j (-1) = mFill n (j + 1) := by
 unfold mFill
 rw [List.set_append_right _ _ (by simp)]
 obtain ⟨k, hk⟩ : ∃ k, n - j = k + 1 := ⟨n - j - 1, by omega⟩
 have e : n - (j + 1) = k := by omega
 rw [hk, e, List.replicate_succ, List.replicate_succ']
 simp
def NoMor (ty : List Typ) (a b : List Nd) : Prop := ¬ ∃ m, Mor ty a b m
noncomputable def tw13 : Tbl := [(53, gHS), (54, gTarget)]
theorem ctw13 : Ctx Try.prog G (orc tw13) := (TblOK.cons hsubP_ok (.cons gTarget_ok .nil)).ctx mixed
def R18 (tt tf ta tb : T) : Heap := [(0, .cells 29 [.t tt, .t tf]), (1, .cells 25 [.t ta]), (2, .cells 25 [.t tb])]
def S18a (tt tf ta tb : T) (n j : Nat) : AState := ⟨[(23, .t (iv (j : Int))), (22, .t (iv (n : Int))), (8, rowP eInt 3 (mFill n j)), (5, .ptr 2 0), (4, .ptr 1 0), (3, .ptr 0 0)], R18 tt tf ta tb ++ rowH eInt 3 3 (mFill n j), 4, 103⟩
def S18 (tt tf ta tb : T) (n : Nat) (s : Nat × List Int) : AState := ⟨[(35, .t (iv (s.1 : Int))), (34, .t (iv (n : Int))), (33, .t ta), (10, .t (bv true)), (8, rowP eInt 3 s.2), (5, .ptr 2 0), (4, .ptr 1 0), (3, .ptr 0 0)], R18 tt tf ta tb ++ rowH eInt 3 3 s.2, 4, 103⟩
def E18 (s : Bool × List Int) : AState := ⟨[(10, .t (bv s.1)), (8, rowP eInt 3 s.2)], rowH eInt 3 3 s.2, 4, 103⟩
def R18i (tt tf ta tb : T) (x : Nd) : Heap := [(0, .cells 29 [.t tt, .t tf]), (1, .cells 25 [.t ta]), (2, .cells 25 [.t tb]), (4, ndR x)]
def S18i (tt tf ta tb : T) (n i : Nat) (x : Nd) (k : Int) (s : Nat × List Int) : AState :=
 ⟨[(62, .t (iv (s.1 : Int))), (61, .t (iv (x.arcs.length : Int))), (60, .t x.tree), (13, .t (iv k)), (12, .ptr 4 0), (35, .t (iv (i : Int))), (34, .t (iv (n : Int))), (33, .t ta), (10, .t (bv true)), (8, rowP eInt 3 s.2), (5, .ptr 2 0), (4, .ptr 1 0), (3, .ptr 0 0)], R18i tt tf ta tb x ++ rowH eInt 3 3 s.2, 5, 103⟩
theorem subR18 {tt tf ta tb : T} {H : Heap} {nx : Nat} (hn : 3 ≤ nx) (h0 : Abs.look H 0 = some (.cells 29 [.t tt, .t tf])) (h1 : Abs.look H 1 = some (.cells 25 [.t ta])) (h2 : Abs.look H 2 = some (.cells 25 [.t tb])) :
  ∀ q ∈ R18 tt tf ta tb, Abs.look H q.1 = some (renRow (fun x => if x = 3 then 3 else x) q.2) ∧ q.1 < nx ∧ q.1 ≠ 3 ∧ q.1 ≠ 3 ∧ underRow nx q.2 = true := by
 intro q hq
 simp only [R18, List.mem_cons, List.not_mem_nil, or_false] at hq
 rcases hq with rfl | rfl | rfl
 ·exact ⟨h0, by show 0 < nx; omega, by omega, by omega, rfl⟩
 ·exact ⟨h1, by show 1 < nx; omega, by omega, by omega, rfl⟩
 ·exact ⟨h2, by show 2 < nx; omega, by omega, by omega, rfl⟩
theorem subR18i {tt tf ta tb : T} {x : Nd} {H : Heap} (h0 : Abs.look H 0 = some (.cells 29 [.t tt, .t tf])) (h1 : Abs.look H 1 = some (.cells 25 [.t ta])) (h2 : Abs.look H 2 = some (.cells 25 [.t tb])) (h4 : Abs.look H 4 = some (ndR x)) :
  ∀ q ∈ R18i tt tf ta tb x, Abs.look H q.1 = some (renRow (fun x => if x = 3 then 3 else x) q.2) ∧ q.1 < 5 ∧ q.1 ≠ 3 ∧ q.1 ≠ 3 ∧ underRow 5 q.2 = true := by
 intro q hq
 simp only [R18i, List.mem_cons, List.not_mem_nil, or_false] at hq
 rcases hq with rfl | rfl | rfl | rfl
 ·exact ⟨h0, by omega, by omega, by omega, rfl⟩
 ·exact ⟨h1, by omega, by omega, by omega, rfl⟩
 ·exact ⟨h2, by omega, by omega, by omega, rfl⟩
 ·exact ⟨h4, by omega, by omega, by omega, rfl⟩
set_option maxRecDepth 100000 in
set_option maxHeartbeats 4000000 in
theorem smap_call {tt tf ta tb : T} {ty : List Typ} {fe : List Ft} {a b : List Nd} (hT : IsS eTyp tt ty) (hF : IsS eFt tf fe) (hta : IsS eNd ta a) (htb : IsS eNd tb b) (hok : TyOK ty) (ha : Valid ty.length fe.length a) (hb : Valid ty.length fe.length b) (sa : Small a) (sb : Small b) :
  CallT Try.prog G 18 [.ag [tt, tf], .ag [ta], .ag [tb]] (· = mapT ty a b) := by
 have cph : cellsP (.t (.ag [tt, tf])) = some [.t tt, .t tf] := rfl
 have cpa : cellsP (.t (.ag [ta])) = some [.t ta] := rfl
 have cpb : cellsP (.t (.ag [tb])) = some [.t tb] := rfl
 have agh : agOf [.t tt, .t tf] = .t (.ag [tt, tf]) := rfl
 have hpos := ha.form.pos
 have hal := sa.len
 refine k_subsume_Map.call rfl ?_
 unfold M_subsume_Map
 refine mc_seq_runs ctw13 ?_
 simp -implicitDefEqProofs [cph, cpa, cpb]
 refine mc_scope ?_
 refine mc_seq_runs ctw13 ?_
 simp -implicitDefEqProofs [loadM, hta.len, make_int (nx := 3) hpos (by omega : a.length ≤ 1000000)]
 have hfl : ∀ {j}, j ≤ a.length → (mFill a.length j).length = a.length := fun h => mFill_len h
 refine mc_cut (fun _ : Unit => S18a tt tf ta tb a.length a.length) (fun _ => True) (fun _ => rfl) ?_ ?_
 ·refine mc_seq_runs ctw13 ?_
  simp -implicitDefEqProofs [len_rowP]
  refine mc_block ?_
  refine mc_for (S18a tt tf ta tb a.length) a.length (fun _ => rfl) ?_ rfl ?_ ?_
  ·unfold S18a
   rw [mFill_zero]
   exact sub_rowR (k := 3) (.inr rfl) (by omega) (by omega) (subR18 (by omega) rfl rfl rfl) (by simp -implicitDefEqProofs [ren_rowP, under_rowP, ren, under])
  ·intro j hj
   have e1 : IntKind.i64.wrap ((j : Int) + 1) = ((j + 1 : Nat) : Int) := wrap_nat (by omega) (by omega)
   have hl := hfl (Nat.le_of_lt hj)
   have hjl : j < (mFill a.length j).length := by omega
   obtain ⟨H0, hH0⟩ : ∃ H0, H0 = R18 tt tf ta tb ++ rowH eInt 3 3 (mFill a.length j) := ⟨_, rfl⟩
   have r3 : RowAt eInt 3 H0 3 (mFill a.length j) := by rw [hH0]; exact RowAt.right (RowAt.head' _ _ _ _) (by simp [R18])
   have ia := iaddr_int (b := 3) hjl
   have st := store_int r3 hjl (-1)
   have hu := RowAt.upd_int r3 hjl (-1)
   rw [mFill_set hj] at st hu
   have hrow : rowP eInt 3 (mFill a.length j) = rowP eInt 3 (mFill a.length (j + 1)) := rowP_len _ _ (by rw [hl, hfl (by omega)])
   have st : storeM 1 H0 (.ptr 3 j) (.t (.v (.int .i64 (-1)))) = _ := st
   refine mc_runs ctw13 ?_
   simp -implicitDefEqProofs [S18a, ← hH0, hj, ia, st, e1]
   refine sub_rowR (b := 3) (k := 3) (nx' := 4) hu (by omega) (by omega) (subR18 (by omega) ?_ ?_ ?_) (by simp -implicitDefEqProofs [ren_rowP, under_rowP, ren, under, hrow])
   ·rw [look_upd, if_neg (by omega), hH0]; rfl
   ·rw [look_upd, if_neg (by omega), hH0]; rfl
   ·rw [look_upd, if_neg (by omega), hH0]; rfl
  ·refine mc_runs ctw13 ?_
   simp -implicitDefEqProofs [S18a]
   exact Next.mk () trivial (sub_env (by simp -implicitDefEqProofs))
 ·rintro _ -
  obtain ⟨H0, hH0⟩ : ∃ H0, H0 = R18 tt tf ta tb ++ rowH eInt 3 3 (rep a.length) := ⟨_, rfl⟩
  have r3 : RowAt eInt 3 H0 3 (rep a.length) := by rw [hH0]; exact RowAt.right (RowAt.head' _ _ _ _) (by simp [R18])
  have hrl : (rep a.length).length = a.length := by simp [rep]
  have h0l : 0 < (rep a.length).length := by omega
  have ia : iaddrM 1 (rowP eInt 3 (rep a.length)) (.t (.v (.int .i64 0))) = some (.ptr 3 0) := iaddr_int (b := 3) h0l
  have st : storeM 1 H0 (.ptr 3 0) (.t (.v (.int .i64 0))) = _ := store_int r3 h0l 0
  have hu := RowAt.upd_int r3 h0l 0
  obtain ⟨H1, hH1⟩ : ∃ H1, H1 = upd H0 3 (rowOf eInt 3 ((rep a.length).set 0 0)) := ⟨_, rfl⟩
  rw [← hH1] at st hu
  have l0 : Abs.look H1 0 = some (.cells 29 [.t tt, .t tf]) := by rw [hH1, look_upd, if_neg (by omega), hH0]; rfl
  have l1 : Abs.look H1 1 = some (.cells 25 [.t ta]) := by rw [hH1, look_upd, if_neg (by omega), hH0]; rfl
  have l2 : Abs.look H1 2 = some (.cells 25 [.t tb]) := by rw [hH1, look_upd, if_neg (by omega), hH0]; rfl
  have ld1 : loadM false 1 H1 (.ptr 1 0) = some (.t ta) := by simp [loadM, l1]
  have hrow : rowP eInt 3 (rep a.length) = rowP eInt 3 ((rep a.length).set 0 0) := rowP_len _ _ (by simp)
  refine mc_seq_runs ctw13 ?_
  simp -implicitDefEqProofs [S18a, mFill_all, ← hH0, ia, st]
  refine mc_seq_runs ctw13 ?_
  simp -implicitDefEqProofs
  refine mc_seq_runs ctw13 ?_
  simp -implicitDefEqProofs
  refine mc_cut E18 (fun s => if s.1 = true then Mor ty a b s.2 else NoMor ty a b) (fun _ => rfl) ?_ ?_
  ·refine mc_seq_runs ctw13 ?_
   simp -implicitDefEqProofs [ld1, hta.len]
   refine mc_block ?_
   refine mc_while (S18 tt tf ta tb a.length) (fun s => a.length - s.1) (fun s => s.1 ≤ a.length ∧ PM ty a b s.2 ∧ ∀ j, j < s.1 → Done ty a b s.2 j) (0, (rep a.length).set 0 0) (fun _ => rfl) ⟨by simp, pm_start ha hb, fun j hj => by simp at hj⟩ ?_ rfl ?_
   ·refine sub_rowR (k := 3) hu (by omega) (by omega) (subR18 (by omega) l0 l1 l2) (by simp -implicitDefEqProofs [ren_rowP, under_rowP, ren, under, hrow])
   ·rintro ⟨i, m⟩ ⟨hi, hpm, hdone⟩
    simp only at hi hpm hdone
    obtain ⟨Hm, hHm⟩ : ∃ Hm, Hm = R18 tt tf ta tb ++ rowH eInt 3 3 m := ⟨_, rfl⟩
    have m3 : RowAt eInt 3 Hm 3 m := by rw [hHm]; exact RowAt.right (RowAt.head' _ _ _ _) (by simp [R18])
    have m0 : Abs.look Hm 0 = some (.cells 29 [.t tt, .t tf]) := by rw [hHm]; rfl
    have m1 : Abs.look Hm 1 = some (.cells 25 [.t ta]) := by rw [hHm]; rfl
    have m2 : Abs.look Hm 2 = some (.cells 25 [.t tb]) := by rw [hHm]; rfl
    by_cases hlt : i < a.length
    ·obtain ⟨x, hx⟩ : ∃ x, a[i]? = some x := ⟨_, List.getElem?_eq_getElem hlt⟩
     have hxm := List.mem_of_getElem? hx
     have hxa := sa.arcs x hxm
     have hkp := done_pos ha hpm hlt hdone
     obtain ⟨k, hk⟩ : ∃ k : Nat, nAt m i = (k : Int) := ⟨(nAt m i).toNat, by omega⟩
     have hkb : k < b.length := by
      rcases hpm.val i with h | ⟨_, h⟩ <;> omega
     obtain ⟨y, hy⟩ : ∃ y, b[k]? = some y := ⟨_, List.getElem?_eq_getElem hkb⟩
     have hym := List.mem_of_getElem? hy
     have hnd : ndAt b (nAt m i) = y := by rw [hk]; exact ndAt_of hy
     have e1 : IntKind.i64.wrap ((i : Int) + 1) = ((i + 1 : Nat) : Int) := wrap_nat (by omega) (by omega)
     have hil : i < m.length := by rw [hpm.len]; exact hlt
     have ix := ia_Nd hta hx
     have iy := ia_Nd htb hy
     have iam := iaddr_int (b := 3) hil
     have cx : cellsP (.t (.ag [iv x.type, x.tree])) = some [.t (iv x.type), .t x.tree] := rfl
     have gh := gHS_eq (s := x.type) (t := y.type) hT hF hok ⟨ha.form.type x hxm, ha.type x hxm⟩ ⟨hb.form.type y hym, hb.type y hym⟩
     have lax : ∀ cs, loadM true 2 Hm (.t (.pt (iv x.type :: x.tree :: cs))) = some (.t (.ag [iv x.type, x.tree])) := fun cs => by simp [loadM]
     refine mc_seq_runs ctw13 ?_
     simp -implicitDefEqProofs [S18, ← hHm, hlt]
     refine mc_seq_runs ctw13 ?_
     simp -implicitDefEqProofs
     refine mc_cut (fun m1 : List Int => S18 tt tf ta tb a.length (i, m1)) (fun m1 => PM ty a b m1 ∧ ∀ j, j < i + 1 → Done ty a b m1 j) (fun _ => rfl) ?_ ?_
     ·refine mc_block ?_
      refine mc_seq_runs ctw13 ?_
      simp -implicitDefEqProofs [ix, lax, storeM, cx, splice]
      obtain ⟨H4, hH4⟩ : ∃ H4, H4 = (4, ndR x) :: Hm := ⟨_, rfl⟩
      have n3 : RowAt eInt 3 H4 3 m := by rw [hH4]; exact m3.cons (by omega)
      have n0 : Abs.look H4 0 = some (.cells 29 [.t tt, .t tf]) := by rw [hH4, look_cons, if_neg (by omega)]; exact m0
      have n1 : Abs.look H4 1 = some (.cells 25 [.t ta]) := by rw [hH4, look_cons, if_neg (by omega)]; exact m1
      have n2 : Abs.look H4 2 = some (.cells 25 [.t tb]) := by rw [hH4, look_cons, if_neg (by omega)]; exact m2
      have n4 : Abs.look H4 4 = some (ndR x) := by rw [hH4]; rfl
      have ldk := load_int n3 hil
      rw [hk] at ldk
      have ldh : loadM true 2 H4 (.ptr 0 0) = some (.t (.ag [tt, tf])) := by simp [loadM, n0, agh]
      have ldx : loadM false 1 H4 (.ptr 4 0) = some (.t (iv x.type)) := by simp [loadM, n4, ndR]
      have ldxt : loadM false 1 H4 (.ptr 4 1) = some (.t x.tree) := by simp [loadM, n4, ndR]
      have ldb : loadM false 1 H4 (.ptr 2 0) = some (.t tb) := by simp [loadM, n2]
      have lp : ∀ c cs, loadM false 1 H4 (.t (.pt (c :: cs))) = some (.t c) := fun _ _ => rfl
      have hHr : (4, Row.cells 61 [.t (iv x.type), .t x.tree]) :: Hm = H4 := by rw [hH4]; rfl
      rw [hHr]
      refine mc_seq_runs ctw13 ?_
      simp -implicitDefEqProofs [iam, ldk]
      have hk0 : ¬ ((k : Int) < 0) := by omega
      cases hs : hsub ty x.type y.type with
      | false =>
       rw [hs] at gh
       refine mc_seq_runs ctw13 ?_
       simp -implicitDefEqProofs [hk0, ldh, ldx, ldb, iy, lp, tw13, gh]
       refine Next.mk (false, m) (show NoMor ty a b from hpm.bad_type hx hkp (by rw [hnd]; exact hs)) ?_
       exact sub_row1 (k := 3) n3 (by omega) (by omega) (by simp -implicitDefEqProofs [ren_rowP, under_rowP, ren, under])
      | true =>
       rw [hs] at gh
       refine mc_seq_runs ctw13 ?_
       simp -implicitDefEqProofs [hk0, ldh, ldx, ldb, iy, lp, tw13, gh]
       refine mc_seq_runs ctw13 ?_
       simp -implicitDefEqProofs [ldxt, x.ok.len]
       refine mc_block ?_
       refine mc_while (S18i tt tf ta tb a.length i x (k : Int)) (fun s => x.arcs.length - s.1) (fun s => s.1 ≤ x.arcs.length ∧ PM ty a b s.2 ∧ (∀ j, j < i → Done ty a b s.2 j) ∧ nAt s.2 i = (k : Int) ∧ ∀ c ∈ x.arcs.take s.1, tgt y c.feat = nAt s.2 c.to.toNat ∧ 0 ≤ nAt s.2 c.to.toNat) (0, m) (fun _ => rfl) ⟨by simp, hpm, hdone, hk, fun c hc => by simp at hc⟩ ?_ rfl ?_
       ·exact sub_rowR (k := 3) n3 (by omega) (by omega) (subR18i n0 n1 n2 n4) (by simp -implicitDefEqProofs [ren_rowP, under_rowP, ren, under])
       ·rintro ⟨q, w⟩ ⟨hq, hw, hdw, hkw, harc⟩
        simp only at hq hw hdw hkw harc
        obtain ⟨Hw, hHw⟩ : ∃ Hw, Hw = R18i tt tf ta tb x ++ rowH eInt 3 3 w := ⟨_, rfl⟩
        have w3 : RowAt eInt 3 Hw 3 w := by rw [hHw]; exact RowAt.right (RowAt.head' _ _ _ _) (by simp [R18i])
        have w0 : Abs.look Hw 0 = some (.cells 29 [.t tt, .t tf]) := by rw [hHw]; rfl
        have w1 : Abs.look Hw 1 = some (.cells 25 [.t ta]) := by rw [hHw]; rfl
        have w2 : Abs.look Hw 2 = some (.cells 25 [.t tb]) := by rw [hHw]; rfl
        have w4 : Abs.look Hw 4 = some (ndR x) := by rw [hHw]; rfl
        have hwi : 0 ≤ nAt w i := by omega
        have hndw : ndAt b (nAt w i) = y := by rw [hkw]; exact ndAt_of hy
        by_cases hql : q < x.arcs.length
        ·obtain ⟨c, hc⟩ : ∃ c, x.arcs[q]? = some c := ⟨_, List.getElem?_eq_getElem hql⟩
         have hcm := List.mem_of_getElem? hc
         have ic := ia_Arc x.ok hc
         obtain ⟨h0, h1⟩ := ha.form.to x hxm c hcm
         obtain ⟨n', hn'⟩ : ∃ n' : Nat, c.to = (n' : Int) := ⟨c.to.toNat, by omega⟩
         have hn2 : c.to.toNat = n' := by omega
         have hnl : n' < w.length := by rw [hw.len]; omega
         have e2 : IntKind.i64.wrap ((q : Int) + 1) = ((q + 1 : Nat) : Int) := wrap_nat (by omega) (by omega)
         have gt := gTarget_eq y (sb.arcs y hym) c.feat
         rw [hn'] at ic
         have cc : cellsP (.t (.ag [iv c.feat, iv (n' : Int)])) = some [.t (iv c.feat), .t (iv (n' : Int))] := rfl
         have lac : ∀ cs, loadM true 2 Hw (.t (.pt (iv c.feat :: iv (n' : Int) :: cs))) = some (.t (.ag [iv c.feat, iv (n' : Int)])) := fun cs => by simp [loadM]
         obtain ⟨to, hto⟩ : ∃ to, to = tgt y c.feat := ⟨_, rfl⟩
         rw [← hto] at gt
         have hto' : tgt (ndAt b (nAt w i)) c.feat = to := by rw [hndw, hto]
         obtain ⟨H5, hH5⟩ : ∃ H5, H5 = (5, Row.cells 81 [.t (iv c.feat), .t (iv (n' : Int))]) :: Hw := ⟨_, rfl⟩
         have v3 : RowAt eInt 3 H5 3 w := by rw [hH5]; exact w3.cons (by omega)
         have v0 : Abs.look H5 0 = some (.cells 29 [.t tt, .t tf]) := by rw [hH5, look_cons, if_neg (by omega)]; exact w0
         have v1 : Abs.look H5 1 = some (.cells 25 [.t ta]) := by rw [hH5, look_cons, if_neg (by omega)]; exact w1
         have v2 : Abs.look H5 2 = some (.cells 25 [.t tb]) := by rw [hH5, look_cons, if_neg (by omega)]; exact w2
         have v4 : Abs.look H5 4 = some (ndR x) := by rw [hH5, look_cons, if_neg (by omega)]; exact w4
         have v5 : Abs.look H5 5 = some (.cells 81 [.t (iv c.feat), .t (iv (n' : Int))]) := by rw [hH5]; rfl
         have ldb5 : loadM false 1 H5 (.ptr 2 0) = some (.t tb) := by simp [loadM, v2]
         have ldf : loadM false 1 H5 (.ptr 5 0) = some (.t (iv c.feat)) := by simp [loadM, v5]
         have ldt : loadM false 1 H5 (.ptr 5 1) = some (.t (iv (n' : Int))) := by simp [loadM, v5]
         have lay : ∀ cs, loadM true 2 H5 (.t (.pt (iv y.type :: y.tree :: cs))) = some (.t (.ag [iv y.type, y.tree])) := fun cs => by simp [loadM]
         have ian := iaddr_int (b := 3) hnl
         have ldn := load_int v3 hnl
         have stn := store_int v3 hnl to
         have hun := RowAt.upd_int v3 hnl to
         have hrow : rowP eInt 3 w = rowP eInt 3 (w.set n' to) := rowP_len _ _ (by simp)
         refine mc_seq_runs ctw13 ?_
         simp -implicitDefEqProofs [S18i, ← hHw, hql]
         refine mc_seq_runs ctw13 ?_
         simp -implicitDefEqProofs
         have go : 0 ≤ to → (nAt w n' < 0 ∨ nAt w n' = to) → PM ty a b (w.set n' to) ∧ (∀ j, j < i → Done ty a b (w.set n' to) j) ∧ nAt (w.set n' to) i = (k : Int) ∧ ∀ c ∈ x.arcs.take (q + 1), tgt y c.feat = nAt (w.set n' to) c.to.toNat ∧ 0 ≤ nAt (w.set n' to) c.to.toNat := by
          intro ht hor
          obtain ⟨p1, p2, p3⟩ := hw.put ha hb hx hwi hcm (by rw [hto']; exact ht) (by rw [hto', hn2]; exact hor)
          rw [hto', hn2] at p1 p2 p3
          refine ⟨p1, fun j hj => (hdw j hj).more p2, by rw [p2 i hwi]; exact hkw, fun c' hc' => ?_⟩
          rw [List.take_add_one, hc] at hc'
          rcases List.mem_append.1 hc' with h | h
          ·obtain ⟨h3, h4⟩ := harc c' h
           rw [p2 _ h4]
           exact ⟨h3, h4⟩
          ·simp at h
           subst h
           rw [hn2, p3, ← hto]
           exact ⟨rfl, ht⟩
         refine mc_cut (fun w1 : List Int => S18i tt tf ta tb a.length i x (k : Int) (q, w1)) (fun w1 => PM ty a b w1 ∧ (∀ j, j < i → Done ty a b w1 j) ∧ nAt w1 i = (k : Int) ∧ ∀ c ∈ x.arcs.take (q + 1), tgt y c.feat = nAt w1 c.to.toNat ∧ 0 ≤ nAt w1 c.to.toNat) (fun _ => rfl) ?_ ?_
         ·refine mc_block ?_
          refine mc_seq_runs ctw13 ?_
          simp -implicitDefEqProofs [ic, lac, storeM, cc, splice]
          rw [← hH5]
          refine mc_seq_runs ctw13 ?_
          simp -implicitDefEqProofs [ldb5, iy, lay, ldf, tw13, gt]
          by_cases ht : to < 0
          ·have hno : NoMor ty a b := hw.bad_arc ha hx hwi hcm (by rw [hto']; exact ht)
           refine mc_seq_runs ctw13 ?_
           simp -implicitDefEqProofs [ht]
           refine Next.mk (false, w) hno ?_
           exact sub_row1 (k := 3) v3 (by omega) (by omega) (by simp -implicitDefEqProofs [ren_rowP, under_rowP, ren, under])
          ·have ht' : 0 ≤ to := by omega
           by_cases hv : 0 ≤ nAt w n'
           ·by_cases he : nAt w n' = to
            ·have hgo := go ht' (.inr he)
             refine mc_seq_runs ctw13 ?_
             rw [he] at ldn
             simp -implicitDefEqProofs [ht, ht', ldt, ian, ldn]
             refine mc_runs ctw13 ?_
             simp -implicitDefEqProofs [ldt, ian, stn]
             refine Next.mk (w.set n' to) hgo ?_
             refine sub_rowR (k := 3) hun (by omega) (by omega) (subR18i ?_ ?_ ?_ ?_) (by simp -implicitDefEqProofs [ren_rowP, under_rowP, ren, under, hrow])
             ·rw [look_upd, if_neg (by omega)]; exact v0
             ·rw [look_upd, if_neg (by omega)]; exact v1
             ·rw [look_upd, if_neg (by omega)]; exact v2
             ·rw [look_upd, if_neg (by omega)]; exact v4
            ·have hno : NoMor ty a b := hw.bad_to ha hx hwi hcm (by rw [hn2]; exact hv) (by rw [hn2, hto']; exact he)
             refine mc_seq_runs ctw13 ?_
             simp -implicitDefEqProofs [ht, ldt, ian, ldn, hv, he]
             refine Next.mk (false, w) hno ?_
             exact sub_row1 (k := 3) v3 (by omega) (by omega) (by simp -implicitDefEqProofs [ren_rowP, under_rowP, ren, under])
           ·have hgo := go ht' (.inl (by omega))
            refine mc_seq_runs ctw13 ?_
            simp -implicitDefEqProofs [ht, ldt, ian, ldn, hv]
            refine mc_runs ctw13 ?_
            simp -implicitDefEqProofs [ldt, ian, stn]
            refine Next.mk (w.set n' to) hgo ?_
            refine sub_rowR (k := 3) hun (by omega) (by omega) (subR18i ?_ ?_ ?_ ?_) (by simp -implicitDefEqProofs [ren_rowP, under_rowP, ren, under, hrow])
            ·rw [look_upd, if_neg (by omega)]; exact v0
            ·rw [look_upd, if_neg (by omega)]; exact v1
            ·rw [look_upd, if_neg (by omega)]; exact v2
            ·rw [look_upd, if_neg (by omega)]; exact v4
         ·rintro w1 ⟨g1, g2, g3, g4⟩
          refine mc_runs ctw13 ?_
          simp -implicitDefEqProofs [S18i, e2]
          refine Next.mk (q + 1, w1) ⟨⟨by show q + 1 ≤ _; omega, g1, g2, g3, g4⟩, by show x.arcs.length - (q + 1) < x.arcs.length - q; omega⟩ ?_
          exact sub_env (by simp -implicitDefEqProofs)
        ·refine mc_runs ctw13 ?_
         have hqe : q = x.arcs.length := by omega
         simp -implicitDefEqProofs [S18i, ← hHw, hql]
         refine Next.mk w ⟨hw, fun j hj => ?_⟩ ?_
         ·by_cases e : j = i
          ·subst e
           refine ⟨hwi, fun z hz => ?_, fun z hz c hc => ?_⟩
           ·rw [hx] at hz; injection hz with hz; subst hz
            rw [hndw]; exact hs
           ·rw [hx] at hz; injection hz with hz; subst hz
            rw [hndw]
            exact harc c (by rw [hqe, List.take_length]; exact hc)
          ·exact hdw j (by omega)
         ·exact sub_rowR (k := 3) w3 (by omega) (by omega) (subR18 (by omega) w0 w1 w2) (by simp -implicitDefEqProofs [ren_rowP, under_rowP, ren, under])
     ·rintro m1 ⟨h1, h2⟩
      refine mc_runs ctw13 ?_
      simp -implicitDefEqProofs [S18, e1]
      refine Next.mk (i + 1, m1) ⟨⟨by show i + 1 ≤ _; omega, h1, h2⟩, by show a.length - (i + 1) < a.length - i; omega⟩ ?_
      exact sub_env (by simp -implicitDefEqProofs)
    ·refine mc_runs ctw13 ?_
     simp -implicitDefEqProofs [S18, ← hHm, hlt]
     refine Next.mk (true, m) ?_ ?_
     ·exact hpm.mor ha fun j hj => hdone j (by omega)
     ·exact sub_row1 (k := 3) m3 (by omega) (by omega) (by simp -implicitDefEqProofs [ren_rowP, under_rowP, ren, under])
  ·rintro ⟨fl, m⟩ hm
   refine mc_runs ctw13 ?_
   cases fl with
   | true =>
    have hm : Mor ty a b m := by simpa using hm
    have hres := mapT_some ha hm
    have t2 := toT_tu2 (RowAt.head' eInt 3 3 m) (bv true)
    simp -implicitDefEqProofs [E18, -oneOf, t2, hres]
   | false =>
    have hm : NoMor ty a b := by simpa using hm
    have hres := mapT_none hm
    simp -implicitDefEqProofs [E18, hres]
end Go.Proofs.Ytbiadmfmjnoecaa
