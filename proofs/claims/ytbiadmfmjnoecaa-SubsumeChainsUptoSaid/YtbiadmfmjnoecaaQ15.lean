/-
  Map of the document: the same morphism.
-/
import Derived.Test.YtbiadmfmjnoecaaQ14
namespace Go.Proofs.Ytbiadmfmjnoecaa
set_option linter.unusedSimpArgs false
set_option linter.unusedVariables false
open Go Go.Abs
structure Td (a : List Nd) (out todo : List Int) : Prop where
 at' : ∀ (j : Nat) n, todo[j]? = some n → 0 ≤ n ∧ n < (a.length : Int) ∧ 0 ≤ nAt out n.toNat
 mem : ∀ n : Nat, n < a.length → 0 ≤ nAt out n → (n : Int) ∈ todo
 sum : todo.length + negs out = a.length
theorem Td.all {nt nf : Nat} {ty : List Typ} {a b : List Nd} {out todo : List Int} (ha : Valid nt nf a) (hp : PM ty a b out) (h : Td a out todo) (hd : ∀ (j : Nat) n, todo[j]? = some n → Done ty a b out n.toNat) : ∀ i, i < a.length → Done ty a b out i := by
 have key : ∀ i, i < a.length → (i : Int) ∈ todo := by
  intro i
  induction i using Nat.strongRecOn with
  | ind i ih =>
   intro hi
   by_cases h0 : i = 0
   ·exact h.mem i hi (by rw [h0, hp.root]; omega)
   ·obtain ⟨j, z, c, h1, h2, h3, h4⟩ := ha.par (by omega : 0 < i) hi
    obtain ⟨t, ht, e⟩ := List.getElem_of_mem (ih j h1 (by omega))
    have := hd t _ (by rw [List.getElem?_eq_getElem ht, e])
    have := ((this.arc z (by rw [Int.toNat_natCast]; exact h2) c h3).2)
    have e2 : c.to.toNat = i := by omega
    rw [e2] at this
    exact h.mem i hi this
 intro i hi
 obtain ⟨t, ht, e⟩ := List.getElem_of_mem (key i hi)
 have := hd t _ (by rw [List.getElem?_eq_getElem ht, e])
 simpa using this
theorem Td.put {a : List Nd} {out todo : List Int} (hl : out.length = a.length) (h : Td a out todo) {n : Nat} (hn : nAt out n < 0) {v : Int} (hv : 0 ≤ v) : Td a (out.set n v) (todo ++ [(n : Int)]) := by
 have hlt := nAt_lt hn
 have hs : ∀ j, nAt (out.set n v) j = if j = n then v else nAt out j := fun j => nAt_set hlt
 refine ⟨fun j m hj => ?_, fun m hm hp => ?_, ?_⟩
 ·rw [List.getElem?_append] at hj
  split at hj
  ·obtain ⟨h1, h2, h3⟩ := h.at' j m hj
   refine ⟨h1, h2, ?_⟩
   rw [hs]
   split <;> omega
  ·have h0 : j - todo.length = 0 := by
    have := (List.getElem?_eq_some_iff.1 hj).1
    simp at this
    omega
   rw [h0] at hj
   simp at hj
   subst hj
   refine ⟨by omega, by omega, ?_⟩
   rw [hs, Int.toNat_natCast, if_pos rfl]
   exact hv
 ·rw [hs] at hp
  split at hp
  ·rename_i e
   subst e
   simp
  ·exact List.mem_append_left _ (h.mem m hm hp)
 ·have := h.sum
  have := negs_set hn hv
  simp only [List.length_append, List.length_cons, List.length_nil]
  omega
theorem td_start {nt nf : Nat} {a : List Nd} (ha : Valid nt nf a) : Td a ((rep a.length).set 0 0) [0] := by
 have hpos := ha.form.pos
 have h0 : nAt (rep a.length) 0 < 0 := by unfold rep; rw [nAt_rep hpos]; omega
 have e : ((rep a.length).set 0 0, [(0 : Int)]) = ((rep a.length).set 0 0, ([] : List Int) ++ [((0 : Nat) : Int)]) := rfl
 have := Td.put (a := a) (out := rep a.length) (todo := []) (by simp [rep]) ⟨fun j n h => by simp at h, fun n hn hp => by unfold rep at hp; rw [nAt_rep hn] at hp; omega, by unfold rep; rw [negs_rep]; simp⟩ h0 (v := 0) (by omega)
 exact this
def gFill (n j : Nat) : List Int := 0 :: mFill (n - 1) j
theorem gFill_len {n j : Nat} (h0 : 0 < n) (h : j + 1 ≤ n) : (gFill n j).length = n := by
 simp only [gFill, List.length_cons, mFill_len (show j ≤ n - 1 by omega)]
 omega
theorem gFill_zero {n : Nat} (h0 : 0 < n) : gFill n 0 = List.replicate n 0 := by
 unfold gFill
 rw [mFill_zero]
 obtain ⟨k, rfl⟩ : ∃ k, n = k + 1 := ⟨n - 1, by omega⟩
 rw [List.replicate_succ]
 rfl
theorem gFill_all {n : Nat} (h0 : 0 < n) : gFill n (n - 1) = (rep n).set 0 0 := by
 unfold gFill
 rw [mFill_all]
 obtain ⟨k, rfl⟩ : ∃ k, n = k + 1 := ⟨n - 1, by omega⟩
 simp [rep, List.replicate_succ]
theorem gFill_set {n j : Nat} (h : j + 1 < n) : (gFill n j).set (j + 1) (-1) = gFill n (j + 1) := by
 unfold gFill
 rw [List.set_cons_succ, mFill_set (by omega)]
noncomputable def tw14 : Tbl := [(55, gHS), (56, gStep)]
theorem ctw14 : Ctx Try.prog G (orc tw14) := (TblOK.cons hsub6_ok (.cons gStep_ok .nil)).ctx mixed
def S19a (tt tf ta tb : T) (n j : Nat) : AState := ⟨[(9, .t (iv (j : Int))), (8, rowP eInt 3 (gFill n (j - 1))), (5, .ptr 2 0), (4, .ptr 1 0), (3, .ptr 0 0)], R18 tt tf ta tb ++ rowH eInt 3 3 (gFill n (j - 1)), 4, 123⟩
def S19 (tt tf ta tb : T) (s : Nat × List Int × List Int) : AState := ⟨[(11, .t (iv (s.1 : Int))), (10, rowP eInt 4 s.2.2), (8, rowP eInt 3 s.2.1), (5, .ptr 2 0), (4, .ptr 1 0), (3, .ptr 0 0)], R18 tt tf ta tb ++ (rowH eInt 3 3 s.2.1 ++ rowH eInt 3 4 s.2.2), 5, 123⟩
def E19 (m : List Int) : AState := ⟨[(8, rowP eInt 3 m)], rowH eInt 3 3 m, 4, 123⟩
def S19i (tt tf ta tb : T) (i : Nat) (n : Nat) (x : Nd) (s : Nat × List Int × List Int) : AState :=
 ⟨[(14, .t (iv (s.1 : Int))), (13, .t x.tree), (12, .t (iv (n : Int))), (11, .t (iv (i : Int))), (10, rowP eInt 4 s.2.2), (8, rowP eInt 3 s.2.1), (5, .ptr 2 0), (4, .ptr 1 0), (3, .ptr 0 0)], R18 tt tf ta tb ++ (rowH eInt 3 3 s.2.1 ++ rowH eInt 3 4 s.2.2), 5, 123⟩
theorem subR19 {tt tf ta tb : T} {H : Heap} {k : Nat} (hk : 3 ≤ k) (h0 : Abs.look H 0 = some (.cells 29 [.t tt, .t tf])) (h1 : Abs.look H 1 = some (.cells 25 [.t ta])) (h2 : Abs.look H 2 = some (.cells 25 [.t tb])) :
  ∀ q ∈ R18 tt tf ta tb, Abs.look H q.1 = some (renRow (fun x => if x = 4 then k else x) q.2) ∧ q.1 < 5 ∧ q.1 ≠ 4 ∧ q.1 ≠ k ∧ underRow 5 q.2 = true := by
 intro q hq
 simp only [R18, List.mem_cons, List.not_mem_nil, or_false] at hq
 rcases hq with rfl | rfl | rfl
 ·exact ⟨h0, by omega, by omega, by show 0 ≠ k; omega, rfl⟩
 ·exact ⟨h1, by omega, by omega, by show 1 ≠ k; omega, rfl⟩
 ·exact ⟨h2, by omega, by omega, by show 2 ≠ k; omega, rfl⟩
structure At19 (tt tf ta tb : T) (out todo : List Int) (k : Nat) (H : Heap) : Prop where
 h0 : Abs.look H 0 = some (.cells 29 [.t tt, .t tf])
 h1 : Abs.look H 1 = some (.cells 25 [.t ta])
 h2 : Abs.look H 2 = some (.cells 25 [.t tb])
 out : RowAt eInt 3 H 3 out
 todo : RowAt eInt 3 H k todo
theorem At19.mk' (tt tf ta tb : T) (out todo : List Int) : At19 tt tf ta tb out todo 4 (R18 tt tf ta tb ++ (rowH eInt 3 3 out ++ rowH eInt 3 4 todo)) where
 h0 := rfl
 h1 := rfl
 h2 := rfl
 out := RowAt.right (RowAt.head _ _ _ _ _) (by simp [R18])
 todo := RowAt.right ((RowAt.head' _ _ _ _).left (by omega)) (by simp [R18])
theorem At19.sub {P : Program} {tt tf ta tb : T} {out todo : List Int} {k nx : Nat} {H : Heap} (h : At19 tt tf ta tb out todo k H) (hk : 4 ≤ k) {env env' : List (Nat × PV)} {n : Nat}
  (he : ∀ q ∈ env', Abs.look env q.1 = some (ren (fun x => if x = 4 then k else x) q.2) ∧ under 5 q.2 = true) : Sub P G 0 ⟨env, H, nx, n⟩ ⟨env', R18 tt tf ta tb ++ (rowH eInt 3 3 out ++ rowH eInt 3 4 todo), 5, n⟩ :=
 sub_rowR2 h.todo h.out (by omega) (by omega) (by omega) (by omega) (by omega) (subR19 (by omega) h.h0 h.h1 h.h2) he
set_option maxRecDepth 100000 in
set_option maxHeartbeats 4000000 in
theorem rmap_call {tt tf ta tb : T} {ty : List Typ} {fe : List Ft} {a b : List Nd} (hT : IsS eTyp tt ty) (hF : IsS eFt tf fe) (hta : IsS eNd ta a) (htb : IsS eNd tb b) (hok : TyOK ty) (ha : Valid ty.length fe.length a) (hb : Valid ty.length fe.length b) (sa : Small a) (sb : Small b) :
  CallT Try.prog G 19 [.ag [tt, tf], .ag [ta], .ag [tb]] (· = mapT ty a b) := by
 have cph : cellsP (.t (.ag [tt, tf])) = some [.t tt, .t tf] := rfl
 have cpa : cellsP (.t (.ag [ta])) = some [.t ta] := rfl
 have cpb : cellsP (.t (.ag [tb])) = some [.t tb] := rfl
 have agh : agOf [.t tt, .t tf] = .t (.ag [tt, tf]) := rfl
 have agb : agOf [.t tb] = .t (.ag [tb]) := rfl
 have hpos := ha.form.pos
 have hal := sa.len
 have hz : eInt.z = 1 := rfl
 refine k_r09_Map.call rfl ?_
 unfold M_r09_Map
 refine mc_seq_runs ctw14 ?_
 simp -implicitDefEqProofs [cph, cpa, cpb]
 refine mc_seq_runs ctw14 ?_
 simp -implicitDefEqProofs [loadM, hta.len, make_int (nx := 3) hpos (by omega : a.length ≤ 1000000)]
 have hfl : ∀ {j}, j + 1 ≤ a.length → (gFill a.length j).length = a.length := fun h => gFill_len hpos h
 refine mc_cut (fun _ : Unit => S19a tt tf ta tb a.length a.length) (fun _ => True) (fun _ => rfl) ?_ ?_
 ·refine mc_seq_runs ctw14 ?_
  simp -implicitDefEqProofs
  refine mc_block ?_
  refine mc_while (S19a tt tf ta tb a.length) (fun j => a.length - j) (fun j => 1 ≤ j ∧ j ≤ a.length) 1 (fun _ => rfl) ⟨Nat.le_refl _, hpos⟩ ?_ rfl ?_
  ·have h0 : gFill a.length (1 - 1) = List.replicate a.length 0 := gFill_zero hpos
   unfold S19a
   rw [h0]
   exact sub_rowR (k := 3) (.inr rfl) (by omega) (by omega) (subR18 (by omega) rfl rfl rfl) (by simp -implicitDefEqProofs [ren_rowP, under_rowP, ren, under])
  ·rintro j ⟨hj1, hj2⟩
   have hl := hfl (j := j - 1) (by omega)
   obtain ⟨g, hg⟩ : ∃ g, g = gFill a.length (j - 1) := ⟨_, rfl⟩
   rw [← hg] at hl
   obtain ⟨H0, hH0⟩ : ∃ H0, H0 = R18 tt tf ta tb ++ rowH eInt 3 3 g := ⟨_, rfl⟩
   have r3 : RowAt eInt 3 H0 3 g := by rw [hH0]; exact RowAt.right (RowAt.head' _ _ _ _) (by simp [R18])
   by_cases hj : j < a.length
   ·have e1 : IntKind.i64.wrap ((j : Int) + 1) = ((j + 1 : Nat) : Int) := wrap_nat (by omega) (by omega)
    have hjl : j < g.length := by omega
    have ia := iaddr_int (b := 3) hjl
    have st := store_int r3 hjl (-1)
    have hu := RowAt.upd_int r3 hjl (-1)
    have hset : g.set j (-1) = gFill a.length (j + 1 - 1) := by
     obtain ⟨i, rfl⟩ : ∃ i, j = i + 1 := ⟨j - 1, by omega⟩
     rw [hg]
     exact gFill_set hj
    have hrow : rowP eInt 3 g = rowP eInt 3 (g.set j (-1)) := rowP_len _ _ (by simp)
    have st : storeM 1 H0 (.ptr 3 j) (.t (.v (.int .i64 (-1)))) = _ := st
    refine mc_runs ctw14 ?_
    simp -implicitDefEqProofs [S19a, ← hg, ← hH0, hj, len_rowP, hl, ia, st, e1]
    refine Next.mk (j + 1) ⟨⟨by omega, by omega⟩, by omega⟩ ?_
    unfold S19a
    rw [← hset]
    refine sub_rowR (b := 3) (k := 3) (nx' := 4) hu (by omega) (by omega) (subR18 (by omega) ?_ ?_ ?_) (by simp -implicitDefEqProofs [ren_rowP, under_rowP, ren, under, hrow])
    ·rw [look_upd, if_neg (by omega), hH0]; rfl
    ·rw [look_upd, if_neg (by omega), hH0]; rfl
    ·rw [look_upd, if_neg (by omega), hH0]; rfl
   ·have e : j = a.length := by omega
    subst e
    refine mc_runs ctw14 ?_
    simp -implicitDefEqProofs [S19a, ← hg, ← hH0, len_rowP, hl]
    exact Next.mk () trivial (sub_env (by simp -implicitDefEqProofs))
 ·rintro _ -
  have bs : bsliceM 3 1 [.int .i64 0] 1 [(0, .t (.v (.int .i64 0)))] 4 = some (.row 4 0 1 1, .cells 3 [.t (iv 0)]) := rfl
  refine mc_seq_runs ctw14 ?_
  unfold S19a
  rw [gFill_all hpos]
  obtain ⟨H0, hH0⟩ : ∃ H0, H0 = R18 tt tf ta tb ++ rowH eInt 3 3 ((rep a.length).set 0 0) := ⟨_, rfl⟩
  have r3 : RowAt eInt 3 H0 3 ((rep a.length).set 0 0) := by rw [hH0]; exact RowAt.right (RowAt.head' _ _ _ _) (by simp [R18])
  rw [← hH0]
  simp -implicitDefEqProofs [bs]
  have at0 : At19 tt tf ta tb ((rep a.length).set 0 0) [0] 4 ((4, .cells 3 [.t (iv 0)]) :: H0) := by
   refine ⟨?_, ?_, ?_, r3.cons (by omega), .inr rfl⟩
   ·rw [look_cons, if_neg (by omega), hH0]; rfl
   ·rw [look_cons, if_neg (by omega), hH0]; rfl
   ·rw [look_cons, if_neg (by omega), hH0]; rfl
  refine mc_cut E19 (fun m => Mor ty a b m) (fun _ => rfl) ?_ ?_
  ·refine mc_seq_runs ctw14 ?_
   simp -implicitDefEqProofs
   refine mc_block ?_
   refine mc_while (S19 tt tf ta tb) (fun s => a.length - s.1) (fun s => s.1 ≤ s.2.2.length ∧ PM ty a b s.2.1 ∧ Td a s.2.1 s.2.2 ∧ ∀ (j : Nat) n, j < s.1 → s.2.2[j]? = some n → Done ty a b s.2.1 n.toNat) (0, (rep a.length).set 0 0, [0]) (fun _ => rfl) ⟨by simp, pm_start ha hb, td_start ha, fun j n hj => by simp at hj⟩ ?_ rfl ?_
   ·have rp : rowP eInt 4 [(0 : Int)] = .row 4 0 1 1 := rfl
    exact at0.sub (by omega) (by simp -implicitDefEqProofs [rp, ren_rowP, under_rowP, ren, under])
   ·rintro ⟨i, out, todo⟩ ⟨hi, hpm, htd, hdone⟩
    simp only at hi hpm htd hdone
    obtain ⟨Hm, hHm⟩ : ∃ Hm, Hm = R18 tt tf ta tb ++ (rowH eInt 3 3 out ++ rowH eInt 3 4 todo) := ⟨_, rfl⟩
    have am : At19 tt tf ta tb out todo 4 Hm := by rw [hHm]; exact At19.mk' _ _ _ _ _ _
    have htl : todo.length ≤ a.length := by have := htd.sum; omega
    by_cases hlt : i < todo.length
    ·obtain ⟨n0, hn0⟩ : ∃ n0, todo[i]? = some n0 := ⟨_, List.getElem?_eq_getElem hlt⟩
     obtain ⟨q1, q2, hkp⟩ := htd.at' i n0 hn0
     obtain ⟨n, rfl⟩ : ∃ n : Nat, n0 = (n : Int) := ⟨n0.toNat, by omega⟩
     rw [Int.toNat_natCast] at hkp
     have hna : n < a.length := by omega
     obtain ⟨x, hx⟩ : ∃ x, a[n]? = some x := ⟨_, List.getElem?_eq_getElem hna⟩
     have hxm := List.mem_of_getElem? hx
     have hxa := sa.arcs x hxm
     obtain ⟨k, hk⟩ : ∃ k : Nat, nAt out n = (k : Int) := ⟨(nAt out n).toNat, by omega⟩
     have hkb : k < b.length := by
      rcases hpm.val n with h | ⟨_, h⟩ <;> omega
     obtain ⟨y, hy⟩ : ∃ y, b[k]? = some y := ⟨_, List.getElem?_eq_getElem hkb⟩
     have hym := List.mem_of_getElem? hy
     have hnd : ndAt b (nAt out n) = y := by rw [hk]; exact ndAt_of hy
     have e1 : IntKind.i64.wrap ((i : Int) + 1) = ((i + 1 : Nat) : Int) := wrap_nat (by omega) (by omega)
     have hnl : n < out.length := by rw [hpm.len]; exact hna
     have ix := ia_Nd hta hx
     have iy := ia_Nd htb hy
     have iat := iaddr_int (b := 4) hlt
     have ldt := load_int am.todo hlt
     rw [nAt_val hn0] at ldt
     have iao := iaddr_int (b := 3) hnl
     have ldo := load_int am.out hnl
     rw [hk] at ldo
     have ldh : loadM true 2 Hm (.ptr 0 0) = some (.t (.ag [tt, tf])) := by simp [loadM, am.h0, agh]
     have lda : loadM false 1 Hm (.ptr 1 0) = some (.t ta) := by simp [loadM, am.h1]
     have ldb : loadM false 1 Hm (.ptr 2 0) = some (.t tb) := by simp [loadM, am.h2]
     have lp : ∀ c cs, loadM false 1 Hm (.t (.pt (c :: cs))) = some (.t c) := fun _ _ => rfl
     have gh := gHS_eq (s := x.type) (t := y.type) hT hF hok ⟨ha.form.type x hxm, ha.type x hxm⟩ ⟨hb.form.type y hym, hb.type y hym⟩
     refine mc_seq_runs ctw14 ?_
     simp -implicitDefEqProofs [S19, ← hHm, hlt, len_rowP]
     refine mc_cut (fun s : List Int × List Int => S19 tt tf ta tb (i, s)) (fun s => i + 1 ≤ s.2.length ∧ PM ty a b s.1 ∧ Td a s.1 s.2 ∧ ∀ (j : Nat) n, j < i + 1 → s.2[j]? = some n → Done ty a b s.1 n.toNat) (fun _ => rfl) ?_ ?_
     ·refine mc_block ?_
      refine mc_seq_runs ctw14 ?_
      simp -implicitDefEqProofs [iat, ldt]
      cases hs : hsub ty x.type y.type with
      | false =>
       rw [hs] at gh
       have hres := mapT_none (hpm.bad_type hx hkp (by rw [hnd]; exact hs))
       refine mc_seq_runs ctw14 ?_
       simp -implicitDefEqProofs [ldh, lda, ix, lp, ldb, iao, ldo, iy, tw14, gh, hres]
      | true =>
       rw [hs] at gh
       refine mc_seq_runs ctw14 ?_
       simp -implicitDefEqProofs [ldh, lda, ix, lp, ldb, iao, ldo, iy, tw14, gh]
       refine mc_seq_runs ctw14 ?_
       simp -implicitDefEqProofs [lda, ix, lp]
       refine mc_seq_runs ctw14 ?_
       simp -implicitDefEqProofs
       refine mc_block ?_
       refine mc_while (S19i tt tf ta tb i n x) (fun s => x.arcs.length - s.1) (fun s => s.1 ≤ x.arcs.length ∧ PM ty a b s.2.1 ∧ Td a s.2.1 s.2.2 ∧ (∀ (j : Nat) n, j < i → s.2.2[j]? = some n → Done ty a b s.2.1 n.toNat) ∧ s.2.2[i]? = some (n : Int) ∧ nAt s.2.1 n = (k : Int) ∧ ∀ c ∈ x.arcs.take s.1, tgt y c.feat = nAt s.2.1 c.to.toNat ∧ 0 ≤ nAt s.2.1 c.to.toNat) (0, out, todo) (fun _ => rfl) ⟨by simp, hpm, htd, hdone, hn0, hk, fun c hc => by simp at hc⟩ ?_ rfl ?_
       ·exact am.sub (by omega) (by simp -implicitDefEqProofs [ren_rowP, under_rowP, ren, under])
       ·rintro ⟨q, w, tl⟩ ⟨hq, hw, hwt, hdw, hti, hkw, harc⟩
        simp only at hq hw hwt hdw hti hkw harc
        obtain ⟨Hw, hHw⟩ : ∃ Hw, Hw = R18 tt tf ta tb ++ (rowH eInt 3 3 w ++ rowH eInt 3 4 tl) := ⟨_, rfl⟩
        have aw : At19 tt tf ta tb w tl 4 Hw := by rw [hHw]; exact At19.mk' _ _ _ _ _ _
        have hwi : 0 ≤ nAt w n := by omega
        have hndw : ndAt b (nAt w n) = y := by rw [hkw]; exact ndAt_of hy
        have htll : tl.length ≤ a.length := by have := hwt.sum; omega
        by_cases hql : q < x.arcs.length
        ·obtain ⟨c, hc⟩ : ∃ c, x.arcs[q]? = some c := ⟨_, List.getElem?_eq_getElem hql⟩
         have hcm := List.mem_of_getElem? hc
         have ic := ia_Arc x.ok hc
         obtain ⟨h0, h1⟩ := ha.form.to x hxm c hcm
         obtain ⟨n', hn'⟩ : ∃ n' : Nat, c.to = (n' : Int) := ⟨c.to.toNat, by omega⟩
         have hn2 : c.to.toNat = n' := by omega
         have hnl' : n' < w.length := by rw [hw.len]; omega
         have hnw : n < w.length := by rw [hw.len]; exact hna
         have e2 : IntKind.i64.wrap ((q : Int) + 1) = ((q + 1 : Nat) : Int) := wrap_nat (by omega) (by omega)
         have gt := gStep_eq htb hy (sb.arcs y hym) c.feat
         rw [hn'] at ic
         obtain ⟨to, hto⟩ : ∃ to, to = tgt y c.feat := ⟨_, rfl⟩
         have hstep := stepT_tgt hb hym c.feat
         rw [← hto] at hstep
         have hto' : tgt (ndAt b (nAt w n)) c.feat = to := by rw [hndw, hto]
         have iaw := iaddr_int (b := 3) hnw
         have ldw := load_int aw.out hnw
         rw [hkw] at ldw
         have ldbw : loadM true 1 Hw (.ptr 2 0) = some (.t (.ag [tb])) := by simp [loadM, aw.h2, agb]
         have lpw : ∀ c cs, loadM false 1 Hw (.t (.pt (c :: cs))) = some (.t c) := fun _ _ => rfl
         have ian := iaddr_int (b := 3) hnl'
         have ldn := load_int aw.out hnl'
         have go : 0 ≤ to → (nAt w n' < 0 ∨ nAt w n' = to) → PM ty a b (w.set n' to) ∧ More w (w.set n' to) ∧ nAt (w.set n' to) n' = to := by
          intro ht hor
          obtain ⟨p1, p2, p3⟩ := hw.put ha hb hx hwi hcm (by rw [hto']; exact ht) (by rw [hto', hn2]; exact hor)
          rw [hto', hn2] at p1 p2 p3
          exact ⟨p1, p2, p3⟩
         have arcs' : ∀ w1, More w w1 → nAt w1 n' = to → 0 ≤ to → ∀ c ∈ x.arcs.take (q + 1), tgt y c.feat = nAt w1 c.to.toNat ∧ 0 ≤ nAt w1 c.to.toNat := by
          intro w1 p2 p3 ht c' hc'
          rw [List.take_add_one, hc] at hc'
          rcases List.mem_append.1 hc' with h | h
          ·obtain ⟨h3, h4⟩ := harc c' h
           rw [p2 _ h4]
           exact ⟨h3, h4⟩
          ·simp at h
           subst h
           rw [hn2, p3, ← hto]
           exact ⟨rfl, ht⟩
         refine mc_seq_runs ctw14 ?_
         simp -implicitDefEqProofs [S19i, ← hHw, hql, x.ok.len]
         refine mc_cut (fun s : List Int × List Int => S19i tt tf ta tb i n x (q, s)) (fun s => PM ty a b s.1 ∧ Td a s.1 s.2 ∧ (∀ (j : Nat) n, j < i → s.2[j]? = some n → Done ty a b s.1 n.toNat) ∧ s.2[i]? = some (n : Int) ∧ nAt s.1 n = (k : Int) ∧ ∀ c ∈ x.arcs.take (q + 1), tgt y c.feat = nAt s.1 c.to.toNat ∧ 0 ≤ nAt s.1 c.to.toNat) (fun _ => rfl) ?_ ?_
         ·refine mc_block ?_
          rcases hstep with ⟨ht, hst⟩ | ⟨ht, hst⟩
          ·rw [hst] at gt
           have hres := mapT_none (hw.bad_arc ha hx hwi hcm (by rw [hto']; exact ht))
           refine mc_seq_runs ctw14 ?_
           simp -implicitDefEqProofs [ldbw, iaw, ldw, ic, lpw, tw14, gt, extractV]
           refine mc_seq_runs ctw14 ?_
           simp -implicitDefEqProofs [hres]
          ·rw [hst] at gt
           refine mc_seq_runs ctw14 ?_
           simp -implicitDefEqProofs [ldbw, iaw, ldw, ic, lpw, tw14, gt, extractV]
           refine mc_seq_runs ctw14 ?_
           simp -implicitDefEqProofs
           by_cases hv : nAt w n' < 0
           ·obtain ⟨p1, p2, p3⟩ := go ht (.inl hv)
            have stn := store_int aw.out hnl' to
            obtain ⟨H6, hH6⟩ : ∃ H6, H6 = upd Hw 3 (rowOf eInt 3 (w.set n' to)) := ⟨_, rfl⟩
            rw [← hH6] at stn
            have a6 : At19 tt tf ta tb (w.set n' to) tl 4 H6 := by
             rw [hH6]
             refine ⟨?_, ?_, ?_, RowAt.upd_int aw.out hnl' to, aw.todo.imp id fun h => by rw [look_upd, if_neg (by omega)]; exact h⟩
             ·rw [look_upd, if_neg (by omega)]; exact aw.h0
             ·rw [look_upd, if_neg (by omega)]; exact aw.h1
             ·rw [look_upd, if_neg (by omega)]; exact aw.h2
            have lp6 : ∀ c cs, loadM false 1 H6 (.t (.pt (c :: cs))) = some (.t c) := fun _ _ => rfl
            have bs6 : bsliceM 3 1 [.int .i64 0] 1 [(0, .t (iv (n' : Int)))] 5 = some (.row 5 0 1 1, .cells 3 ((eInt.enc (n' : Int)).map .t)) := rfl
            obtain ⟨b2, H2, n2, ap2, r2, ne2, le2, lk2, ge2⟩ := app_some (e := eInt) (ty := 3) (by' := 8) (nx := 6) (m := [(n' : Int)]) (a6.todo.cons (k := 5) (r := .cells 3 ((eInt.enc (n' : Int)).map .t)) (by omega)) (src_one (b := 5) (ty := 3) (n' : Int) (by simp)) (by simp; omega) (by simp; omega)
            rw [hz] at ap2
            have a7 : At19 tt tf ta tb (w.set n' to) (tl ++ [(n' : Int)]) b2 H2 := by
             refine ⟨?_, ?_, ?_, a6.out.imp id fun h => ?_, r2⟩
             ·rw [lk2 0 (by omega) (by omega), look_cons, if_neg (by omega)]; exact a6.h0
             ·rw [lk2 1 (by omega) (by omega), look_cons, if_neg (by omega)]; exact a6.h1
             ·rw [lk2 2 (by omega) (by omega), look_cons, if_neg (by omega)]; exact a6.h2
             ·rw [lk2 3 (by omega) (by omega), look_cons, if_neg (by omega)]; exact h
            have hl7 : n' < (w.set n' to).length := by simpa using hnl'
            have lp7 : ∀ c cs, loadM false 1 H2 (.t (.pt (c :: cs))) = some (.t c) := fun _ _ => rfl
            have hrow : rowP eInt 3 w = rowP eInt 3 (w.set n' to) := rowP_len _ _ (by simp)
            have ld7 := load_int a7.out hl7
            rw [p3] at ld7
            refine mc_seq_runs ctw14 ?_
            simp -implicitDefEqProofs [ic, lpw, ian, ldn, hv, stn, lp6, bs6, ap2]
            refine mc_runs ctw14 ?_
            simp -implicitDefEqProofs [ic, lp7, ian, ld7]
            refine Next.mk (w.set n' to, tl ++ [(n' : Int)]) ⟨p1, hwt.put hw.len hv ht, fun j m hj hm => ?_, ?_, by rw [p2 n hwi]; exact hkw, arcs' _ p2 p3 ht⟩ ?_
            ·have hil := (List.getElem?_eq_some_iff.1 hti).1
             have hm : (tl ++ [(n' : Int)])[j]? = some m := hm
             rw [List.getElem?_append_left (by omega)] at hm
             exact (hdw j m hj hm).more p2
            ·have hil := (List.getElem?_eq_some_iff.1 hti).1
             show (tl ++ [(n' : Int)])[i]? = _
             rw [List.getElem?_append_left hil]
             exact hti
            ·exact a7.sub (by omega) (by simp -implicitDefEqProofs [ren_rowP, under_rowP, ren, under, hrow])
           ·by_cases he : nAt w n' = to
            ·rw [he] at ldn
             have hv' : ¬ to < 0 := by omega
             refine mc_seq_runs ctw14 ?_
             simp -implicitDefEqProofs [ic, lpw, ian, ldn, hv']
             refine mc_runs ctw14 ?_
             simp -implicitDefEqProofs [ic, lpw, ian, ldn]
             refine Next.mk (w, tl) ⟨hw, hwt, hdw, hti, hkw, arcs' w (fun _ _ => rfl) he ht⟩ ?_
             exact aw.sub (by omega) (by simp -implicitDefEqProofs [ren_rowP, under_rowP, ren, under])
            ·have hres := mapT_none (hw.bad_to ha hx hwi hcm (by rw [hn2]; omega) (by rw [hn2, hto']; exact he))
             refine mc_seq_runs ctw14 ?_
             simp -implicitDefEqProofs [ic, lpw, ian, ldn, hv]
             refine mc_runs ctw14 ?_
             simp -implicitDefEqProofs [ic, lpw, ian, ldn, he, hres]
         ·rintro ⟨w1, t1⟩ ⟨g1, g2, g3, g4, g5, g6⟩
          refine mc_runs ctw14 ?_
          simp -implicitDefEqProofs [S19i, e2]
          refine Next.mk (q + 1, w1, t1) ⟨⟨by show q + 1 ≤ _; omega, g1, g2, g3, g4, g5, g6⟩, by show x.arcs.length - (q + 1) < x.arcs.length - q; omega⟩ ?_
          exact sub_env (by simp -implicitDefEqProofs)
        ·refine mc_runs ctw14 ?_
         have hqe : q = x.arcs.length := by omega
         simp -implicitDefEqProofs [S19i, ← hHw, hql, x.ok.len]
         refine Next.mk (w, tl) ⟨?_, hw, hwt, fun j m hj hm => ?_⟩ ?_
         ·exact (List.getElem?_eq_some_iff.1 hti).1
         ·by_cases e : j = i
          ·subst e
           rw [hti] at hm
           injection hm with hm
           subst hm
           rw [Int.toNat_natCast]
           refine ⟨hwi, fun z hz => ?_, fun z hz c hc => ?_⟩
           ·rw [hx] at hz; injection hz with hz; subst hz
            rw [hndw]; exact hs
           ·rw [hx] at hz; injection hz with hz; subst hz
            rw [hndw]
            exact harc c (by rw [hqe, List.take_length]; exact hc)
          ·exact hdw j m (by omega) hm
         ·exact aw.sub (by omega) (by simp -implicitDefEqProofs [ren_rowP, under_rowP, ren, under])
     ·rintro ⟨o1, t1⟩ ⟨h1, h2, h3, h4⟩
      simp only at h1 h2 h3 h4
      have := h3.sum
      refine mc_runs ctw14 ?_
      simp -implicitDefEqProofs [S19, e1]
      refine Next.mk (i + 1, o1, t1) ⟨⟨h1, h2, h3, h4⟩, by show a.length - (i + 1) < a.length - i; omega⟩ ?_
      exact sub_env (by simp -implicitDefEqProofs)
    ·refine mc_runs ctw14 ?_
     simp -implicitDefEqProofs [S19, ← hHm, hlt, len_rowP]
     refine Next.mk out ?_ ?_
     ·exact hpm.mor ha (htd.all ha hpm fun j m hm => hdone j m (by have := (List.getElem?_eq_some_iff.1 hm).1; omega) hm)
     ·exact sub_row1 (k := 3) am.out (by omega) (by omega) (by simp -implicitDefEqProofs [ren_rowP, under_rowP, ren, under])
  ·rintro m hm
   refine mc_runs ctw14 ?_
   have hres := mapT_some ha hm
   have t2 := toT_tu2 (RowAt.head' eInt 3 3 m) (bv true)
   simp -implicitDefEqProofs [E19, -oneOf, t2, hres]
end Go.Proofs.Ytbiadmfmjnoecaa
