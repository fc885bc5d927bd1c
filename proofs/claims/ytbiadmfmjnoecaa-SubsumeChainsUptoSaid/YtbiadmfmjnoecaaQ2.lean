/-
  The checks of declarations: what they return.
  The checks of declarations, further: what they return.
  The order of declarations, and the whole check: what they return.
  The whole check of declarations: what it returns, and what it says where it finds nothing.
-/
import Derived.Test.YtbiadmfmjnoecaaQ1
namespace Go.Proofs.Ytbiadmfmjnoecaa
set_option linter.unusedSimpArgs false
set_option linter.unusedVariables false
open Go Go.Abs
def firstN (f : Nat → Int) : Nat → Int
 | 0 => 0
 | n + 1 => if firstN f n = 0 then f n else firstN f n
theorem firstN_cases (f : Nat → Int) : ∀ n, ((∀ i, i < n → f i = 0) ∧ firstN f n = 0) ∨ ∃ k, k < n ∧ (∀ i, i < k → f i = 0) ∧ f k ≠ 0 ∧ firstN f n = f k
 | 0 => .inl ⟨fun i hi => by omega, rfl⟩
 | n + 1 => by
  rcases firstN_cases f n with ⟨h1, h2⟩ | ⟨k, h1, h2, h3, h4⟩
  ·simp only [firstN, h2, if_true]
   by_cases h : f n = 0
   ·refine .inl ⟨fun i hi => ?_, h⟩
    by_cases e : i = n
    ·subst e; exact h
    ·exact h1 i (by omega)
   ·exact .inr ⟨n, by omega, h1, h, rfl⟩
  ·refine .inr ⟨k, by omega, h2, h3, ?_⟩
   simp only [firstN, h4, if_neg h3]
noncomputable def sizeE (x : TD) : Int := if 256 < x.ss.length ∨ 256 < x.fs.length then 7 else 0
noncomputable def sizesE (d : List TD) : Int := if 256 < d.length then 7 else firstN (fun i => (d[i]?.map sizeE).getD 0) d.length
def S122 (t : T) (j : Nat) : AState := ⟨[(3, .t (iv (j : Int))), (0, .t t)], [], 0, 29⟩
theorem sizes_call {t : T} {d : List TD} (ht : IsS eTD t d) (hd : DOK d) : CallT Try.prog G 122 [t] (· = iv (sizesE d)) := by
 obtain ⟨hdl, hd⟩ := hd
 refine k_r03_sizes.call rfl ?_
 unfold M_r03_sizes
 refine mc_seq_runs ctx0 ?_
 simp -implicitDefEqProofs
 by_cases h0 : 256 < d.length
 ·have h0' : (256 : Int) < (d.length : Int) := by omega
  refine mc_runs ctx0 ?_
  simp -implicitDefEqProofs [ht.len, h0, h0', sizesE]
 ·have h0' : ¬ (256 : Int) < (d.length : Int) := by omega
  refine mc_seq_runs ctx0 ?_
  simp -implicitDefEqProofs [ht.len, h0, h0']
  have hs : sizesE d = firstN (fun i => (d[i]?.map sizeE).getD 0) d.length := by unfold sizesE; rw [if_neg h0]
  rw [hs]
  rcases firstN_cases (fun i => (d[i]?.map sizeE).getD 0) d.length with ⟨h1, h2⟩ | ⟨k, h1, h2, h3, h4⟩
  ·rw [h2]
   refine mc_cut (fun _ : Unit => S122 t d.length) (fun _ => True) (fun _ => rfl) ?_ ?_
   ·refine mc_seq_runs ctx0 ?_
    simp -implicitDefEqProofs
    refine mc_block ?_
    refine mc_for (S122 t) d.length (fun _ => rfl) ?_ rfl ?_ ?_
    ·refine sub_forget rfl rfl ?_ ?_ <;> simp -implicitDefEqProofs [S122]
    ·intro j hj
     refine mc_runs ctx0 ?_
     obtain ⟨x, hx⟩ : ∃ x, d[j]? = some x := ⟨_, List.getElem?_eq_getElem hj⟩
     have ok := hd x (List.mem_of_getElem? hx)
     have hz := h1 j hj
     simp only [hx, Option.map_some, Option.getD_some, sizeE] at hz
     have hz' : ¬ (256 < x.ss.length ∨ 256 < x.fs.length) := fun h => by rw [if_pos h] at hz; cases hz
     have z1 : ¬ (256 : Int) < (x.ss.length : Int) := by omega
     have z2 : ¬ (256 : Int) < (x.fs.length : Int) := by omega
     have z1n : ¬ 256 < x.ss.length := by omega
     have z2n : ¬ 256 < x.fs.length := by omega
     have e1 : IntKind.i64.wrap ((j : Int) + 1) = ((j + 1 : Nat) : Int) := wrap_nat (by omega) (by omega)
     have ia := ht.iaddr hx .i64
     simp only [eTD, List.cons_append, List.nil_append] at ia
     simp -implicitDefEqProofs [S122, hj, ht.len, ia, loadM, ok.ss.len, ok.fs.len, z1, z2, z1n, z2n, e1]
     refine sub_forget rfl rfl ?_ ?_ <;> simp -implicitDefEqProofs
    ·refine mc_runs ctx0 ?_
     simp -implicitDefEqProofs [S122, ht.len]
     exact Next.mk () trivial (sub_forget rfl rfl (by simp -implicitDefEqProofs) (by simp -implicitDefEqProofs))
   ·rintro _ -
    refine mc_runs ctx0 ?_
    simp -implicitDefEqProofs [S122]
  ·refine mc_cut (fun _ : Unit => S122 t d.length) (fun _ => False) (fun _ => rfl) ?_ ?_
   ·refine mc_seq_runs ctx0 ?_
    simp -implicitDefEqProofs
    refine mc_block ?_
    refine mc_for (S122 t) k (fun _ => rfl) ?_ rfl ?_ ?_
    ·refine sub_forget rfl rfl ?_ ?_ <;> simp -implicitDefEqProofs [S122]
    ·intro j hjk
     refine mc_runs ctx0 ?_
     have hj : j < d.length := by omega
     obtain ⟨x, hx⟩ : ∃ x, d[j]? = some x := ⟨_, List.getElem?_eq_getElem hj⟩
     have ok := hd x (List.mem_of_getElem? hx)
     have hz := h2 j hjk
     simp only [hx, Option.map_some, Option.getD_some, sizeE] at hz
     have hz' : ¬ (256 < x.ss.length ∨ 256 < x.fs.length) := fun h => by rw [if_pos h] at hz; cases hz
     have z1 : ¬ (256 : Int) < (x.ss.length : Int) := by omega
     have z2 : ¬ (256 : Int) < (x.fs.length : Int) := by omega
     have z1n : ¬ 256 < x.ss.length := by omega
     have z2n : ¬ 256 < x.fs.length := by omega
     have e1 : IntKind.i64.wrap ((j : Int) + 1) = ((j + 1 : Nat) : Int) := wrap_nat (by omega) (by omega)
     have ia := ht.iaddr hx .i64
     simp only [eTD, List.cons_append, List.nil_append] at ia
     simp -implicitDefEqProofs [S122, hj, ht.len, ia, loadM, ok.ss.len, ok.fs.len, z1, z2, z1n, z2n, e1]
     refine sub_forget rfl rfl ?_ ?_ <;> simp -implicitDefEqProofs
    ·refine mc_runs ctx0 ?_
     obtain ⟨x, hx⟩ : ∃ x, d[k]? = some x := ⟨_, List.getElem?_eq_getElem h1⟩
     have ok := hd x (List.mem_of_getElem? hx)
     simp only [hx, Option.map_some, Option.getD_some, sizeE] at h3 h4
     have hz' : 256 < x.ss.length ∨ 256 < x.fs.length := Classical.byContradiction fun h => h3 (if_neg h)
     rw [if_pos hz'] at h4
     have ia := ht.iaddr hx .i64
     simp only [eTD, List.cons_append, List.nil_append] at ia
     rw [h4]
     by_cases z1n : 256 < x.ss.length
     ·have z1 : (256 : Int) < (x.ss.length : Int) := by omega
      simp -implicitDefEqProofs [S122, h1, ht.len, ia, loadM, ok.ss.len, ok.fs.len, z1, z1n]
     ·have z2n : 256 < x.fs.length := by omega
      have z1 : ¬ (256 : Int) < (x.ss.length : Int) := by omega
      have z2 : (256 : Int) < (x.fs.length : Int) := by omega
      simp -implicitDefEqProofs [S122, h1, ht.len, ia, loadM, ok.ss.len, ok.fs.len, z1, z2, z1n, z2n]
   ·rintro _ h
    exact h.elim
def nameE (d : List TD) (i : Nat) (x : TD) : Int := if isNamed false x.name = false then 1 else if findD d x.name < (i : Int) then 4 else 0
def namesE (d : List TD) : Int := firstN (fun i => (d[i]?.map (nameE d i)).getD 0) d.length
noncomputable def gName : List T → Option T := g1 tStr fun s => if s.size ≤ 9223372036854775807 then some (bv (isNamed false s)) else none
theorem gName_ok : GOK Try.prog G 136 gName := g1_ok fun a x r ha hr => by
 obtain rfl : a = sv x := ha
 split at hr
 ·rename_i h; injection hr with hr; subst hr; exact name_call x h
 ·cases hr
theorem gName_eq (s : Str) (h : s.size ≤ cap) : gName [sv s] = some (bv (isNamed false s)) := by
 unfold gName
 rw [g1_eq (τ := tStr) rfl, if_pos (by unfold cap at h; omega)]
noncomputable def tb12 : Tbl := [(136, gName), (137, gFind), (127, gAmong)]
theorem ctx12 : Ctx Try.prog G (orc tb12) := (TblOK.cons gName_ok (.cons find_ok (.cons among_ok .nil))).ctx mixed
def S123 (t : T) (j : Nat) : AState := ⟨[(3, .t (iv (j : Int))), (0, .t t)], [], 0, 26⟩
theorem namesC_call {t : T} {d : List TD} (ht : IsS eTD t d) (hd : DOK d) : CallT Try.prog G 123 [t] (· = iv (namesE d)) := by
 obtain ⟨hdl, hd⟩ := hd
 refine k_r03_names.call rfl ?_
 unfold M_r03_names
 refine mc_seq_runs ctx12 ?_
 simp -implicitDefEqProofs
 have gf : ∀ s, gFind [t, sv s] = some (iv (findD d s)) := fun s => gFind_eq ht s (by unfold cap; omega)
 obtain ⟨n, E, hn, hgood, hE⟩ : ∃ (n : Nat) (E : Int), n ≤ d.length ∧ (∀ j x, j < n → d[j]? = some x → nameE d j x = 0) ∧ namesE d = E ∧ ((n = d.length ∧ E = 0) ∨ ∃ x, d[n]? = some x ∧ nameE d n x = E ∧ E ≠ 0) := by
  rcases firstN_cases (fun i => (d[i]?.map (nameE d i)).getD 0) d.length with ⟨h1, h2⟩ | ⟨k, h1, h2, h3, h4⟩
  ·refine ⟨d.length, 0, Nat.le_refl _, fun j x hj hx => ?_, h2, .inl ⟨rfl, rfl⟩⟩
   have := h1 j hj
   simpa only [hx, Option.map_some, Option.getD_some] using this
  ·obtain ⟨x, hx⟩ : ∃ x, d[k]? = some x := ⟨_, List.getElem?_eq_getElem h1⟩
   refine ⟨k, nameE d k x, by omega, fun j y hj hy => ?_, ?_, .inr ⟨x, hx, rfl, ?_⟩⟩
   ·have := h2 j hj
    simpa only [hy, Option.map_some, Option.getD_some] using this
   ·show firstN _ _ = _
    rw [h4]
    simp only [hx, Option.map_some, Option.getD_some]
   ·simpa only [hx, Option.map_some, Option.getD_some] using h3
 rw [hE.1]
 refine mc_cut (fun _ : Unit => S123 t d.length) (fun _ => n = d.length ∧ E = 0) (fun _ => rfl) ?_ ?_
 ·refine mc_seq_runs ctx12 ?_
  simp -implicitDefEqProofs
  refine mc_block ?_
  refine mc_for (S123 t) n (fun _ => rfl) ?_ rfl ?_ ?_
  ·refine sub_forget rfl rfl ?_ ?_ <;> simp -implicitDefEqProofs [S123]
  ·intro j hj
   refine mc_runs ctx12 ?_
   have hjl : j < d.length := by omega
   obtain ⟨x, hx⟩ : ∃ x, d[j]? = some x := ⟨_, List.getElem?_eq_getElem hjl⟩
   have ok := hd x (List.mem_of_getElem? hx)
   have hz := hgood j x hj hx
   unfold nameE at hz
   have z1 : isNamed false x.name = true := by
    cases h : isNamed false x.name with
    | true => rfl
    | false => rw [if_pos h] at hz; cases hz
   have z2 : ¬ findD d x.name < (j : Int) := fun h => by rw [if_neg (by rw [z1]; simp), if_pos h] at hz; cases hz
   have gn := gName_eq x.name ok.size
   have e1 : IntKind.i64.wrap ((j : Int) + 1) = ((j + 1 : Nat) : Int) := wrap_nat (by omega) (by omega)
   have ia := ht.iaddr hx .i64
   simp only [eTD, List.cons_append, List.nil_append] at ia
   simp -implicitDefEqProofs [S123, hjl, ht.len, ia, loadM, tb12, gn, gf, z1, z2, e1]
   refine sub_forget rfl rfl ?_ ?_ <;> simp -implicitDefEqProofs
  ·refine mc_runs ctx12 ?_
   rcases hE.2 with ⟨e, e0⟩ | ⟨x, hx, hz, hne⟩
   ·have hnl : ¬ n < d.length := by omega
    simp -implicitDefEqProofs [S123, ht.len, hnl]
    exact Next.mk () ⟨e, e0⟩ (sub_forget rfl rfl (by simp -implicitDefEqProofs [e]) (by simp -implicitDefEqProofs))
   ·have hjl : n < d.length := (List.getElem?_eq_some_iff.1 hx).1
    have ok := hd x (List.mem_of_getElem? hx)
    have gn := gName_eq x.name ok.size
    have ia := ht.iaddr hx .i64
    simp only [eTD, List.cons_append, List.nil_append] at ia
    unfold nameE at hz
    cases z1 : isNamed false x.name with
    | false =>
     rw [if_pos z1] at hz
     simp -implicitDefEqProofs [S123, hjl, ht.len, ia, loadM, tb12, gn, z1, ← hz]
    | true =>
     rw [if_neg (by rw [z1]; simp)] at hz
     have z2 : findD d x.name < (n : Int) := Classical.byContradiction fun h => hne (by rw [← hz, if_neg h])
     rw [if_pos z2] at hz
     simp -implicitDefEqProofs [S123, hjl, ht.len, ia, loadM, tb12, gn, gf, z1, z2, ← hz]
 ·rintro _ ⟨e, e0⟩
  refine mc_runs ctx12 ?_
  simp -implicitDefEqProofs [S123, e0]
def firstE {α : Type} (f : Nat → α → Int) (l : List α) : Int := firstN (fun i => (l[i]?.map (f i)).getD 0) l.length
def Clear {α : Type} (f : Nat → α → Int) (l : List α) (j : Nat) : Prop := j ≤ l.length ∧ ∀ (i : Nat) y, i < j → l[i]? = some y → f i y = 0
theorem Clear.zero {α : Type} (f : Nat → α → Int) (l : List α) : Clear f l 0 := ⟨Nat.zero_le _, fun i y h => by omega⟩
theorem Clear.succ {α : Type} {f : Nat → α → Int} {l : List α} {j : Nat} {x : α} (h : Clear f l j) (hx : l[j]? = some x) (hz : f j x = 0) : Clear f l (j + 1) := by
 have hj := (List.getElem?_eq_some_iff.1 hx).1
 refine ⟨by omega, fun i y hi hy => ?_⟩
 by_cases e : i = j
 ·subst e; rw [hx] at hy; injection hy with hy; subst hy; exact hz
 ·exact h.2 i y (by omega) hy
theorem firstE_at {α : Type} {f : Nat → α → Int} {l : List α} {j : Nat} {x : α} (h : Clear f l j) (hx : l[j]? = some x) (hz : f j x ≠ 0) : firstE f l = f j x := by
 have hj := (List.getElem?_eq_some_iff.1 hx).1
 rcases firstN_cases (fun i => (l[i]?.map (f i)).getD 0) l.length with ⟨h1, h2⟩ | ⟨k, h1, h2, h3, h4⟩
 ·have := h1 j hj
  simp only [hx, Option.map_some, Option.getD_some] at this
  exact absurd this hz
 ·have e : k = j := by
   rcases Nat.lt_trichotomy k j with h' | h' | h'
   ·obtain ⟨y, hy⟩ : ∃ y, l[k]? = some y := ⟨_, List.getElem?_eq_getElem h1⟩
    have := h.2 k y h' hy
    simp only [hy, Option.map_some, Option.getD_some] at h3
    exact absurd this h3
   ·exact h'
   ·have := h2 j h'
    simp only [hx, Option.map_some, Option.getD_some] at this
    exact absurd this hz
  subst e
  unfold firstE
  rw [h4]
  simp only [hx, Option.map_some, Option.getD_some]
theorem firstE_none {α : Type} {f : Nat → α → Int} {l : List α} (h : Clear f l l.length) : firstE f l = 0 := by
 rcases firstN_cases (fun i => (l[i]?.map (f i)).getD 0) l.length with ⟨h1, h2⟩ | ⟨k, h1, h2, h3, h4⟩
 ·exact h2
 ·obtain ⟨y, hy⟩ : ∃ y, l[k]? = some y := ⟨_, List.getElem?_eq_getElem h1⟩
  have := h.2 k y h1 hy
  simp only [hy, Option.map_some, Option.getD_some] at h3
  exact absurd this h3
theorem firstE_zero {α : Type} {f : Nat → α → Int} {l : List α} (h : firstE f l = 0) : Clear f l l.length := by
 refine ⟨Nat.le_refl _, fun i y hi hy => ?_⟩
 rcases firstN_cases (fun i => (l[i]?.map (f i)).getD 0) l.length with ⟨h1, h2⟩ | ⟨k, h1, h2, h3, h4⟩
 ·have := h1 i hi
  simpa only [hy, Option.map_some, Option.getD_some] using this
 ·unfold firstE at h
  rw [h4] at h
  exact absurd h h3
theorem namesE_eq (d : List TD) : namesE d = firstE (nameE d) d := rfl
def supE (d : List TD) (l : List Str) (k : Nat) (s : Str) : Int := if findD d s < 0 then 5 else if hasS (l.take k) s then 4 else 0
noncomputable def supersE (d : List TD) : Int := firstE (fun _ x => firstE (supE d x.ss) x.ss) d
def S124 (t : T) (j : Nat) : AState := ⟨[(3, .t (iv (j : Int))), (0, .t t)], [], 0, 38⟩
def S124b (t u : T) (j k : Nat) : AState := ⟨[(5, .t (iv (k : Int))), (4, .t u), (3, .t (iv (j : Int))), (0, .t t)], [], 0, 38⟩
theorem supers_call {t : T} {d : List TD} (ht : IsS eTD t d) (hd : DOK d) : CallT Try.prog G 124 [t] (· = iv (supersE d)) := by
 obtain ⟨hdl, hd⟩ := hd
 have gf : ∀ s, gFind [t, sv s] = some (iv (findD d s)) := fun s => gFind_eq ht s (by unfold cap; omega)
 refine k_r03_supers.call rfl ?_
 unfold M_r03_supers
 refine mc_seq_runs ctx12 ?_
 simp -implicitDefEqProofs
 refine mc_cut (fun _ : Unit => S124 t d.length) (fun _ => Clear (fun _ (x : TD) => firstE (supE d x.ss) x.ss) d d.length) (fun _ => rfl) ?_ ?_
 ·refine mc_seq_runs ctx12 ?_
  simp -implicitDefEqProofs
  refine mc_block ?_
  refine mc_while (S124 t) (fun j => d.length - j) (Clear (fun _ (x : TD) => firstE (supE d x.ss) x.ss) d) 0 (fun _ => rfl) (Clear.zero _ _) ?_ rfl ?_
  ·refine sub_forget rfl rfl ?_ ?_ <;> simp -implicitDefEqProofs [S124]
  ·intro j hc
   by_cases hj : j < d.length
   ·obtain ⟨x, hx⟩ : ∃ x, d[j]? = some x := ⟨_, List.getElem?_eq_getElem hj⟩
    have ok := hd x (List.mem_of_getElem? hx)
    have ia := ht.iaddr hx .i64
    simp only [eTD, List.cons_append, List.nil_append] at ia
    refine mc_seq_runs ctx12 ?_
    simp -implicitDefEqProofs [S124, hj, ht.len]
    refine mc_cut (fun _ : Unit => S124b t x.supers j x.ss.length) (fun _ => Clear (supE d x.ss) x.ss x.ss.length) (fun _ => rfl) ?_ ?_
    ·refine mc_block ?_
     refine mc_seq_runs ctx12 ?_
     simp -implicitDefEqProofs [ia, loadM]
     refine mc_seq_runs ctx12 ?_
     simp -implicitDefEqProofs
     refine mc_block ?_
     refine mc_while (S124b t x.supers j) (fun k => x.ss.length - k) (Clear (supE d x.ss) x.ss) 0 (fun _ => rfl) (Clear.zero _ _) ?_ rfl ?_
     ·refine sub_forget rfl rfl ?_ ?_ <;> simp -implicitDefEqProofs [S124b]
     ·intro k hk
      refine mc_runs ctx12 ?_
      have hsl := ok.ssl
      unfold cap at hsl
      by_cases hkl : k < x.ss.length
      ·obtain ⟨s, hs⟩ : ∃ s, x.ss[k]? = some s := ⟨_, List.getElem?_eq_getElem hkl⟩
       have ib := ok.ss.iaddr hs .i64
       simp only [eStr, List.cons_append, List.nil_append] at ib
       obtain ⟨u, hu, hu'⟩ := ok.ss.slice_to (Nat.le_of_lt hkl) .i64
       have hz : eStr.z = 1 := rfl
       rw [hz] at hu
       have ga := gAmong_eq hu' s (by rw [List.length_take]; unfold cap; omega)
       have e1 : IntKind.i64.wrap ((k : Int) + 1) = ((k + 1 : Nat) : Int) := wrap_nat (by omega) (by omega)
       by_cases z1 : findD d s < 0
       ·have hE : supE d x.ss k s = 5 := by unfold supE; rw [if_pos z1]
        have h5 := firstE_at hk hs (by rw [hE]; decide)
        have h6 : supersE d = 5 := by
         have := firstE_at (f := fun _ (x : TD) => firstE (supE d x.ss) x.ss) hc hx (by rw [h5, hE]; decide)
         rw [h5, hE] at this
         exact this
        simp -implicitDefEqProofs [S124b, hkl, ok.ss.len, ib, loadM, tb12, gf, z1, h6]
       ·cases z2 : hasS (x.ss.take k) s with
        | true =>
         have hE : supE d x.ss k s = 4 := by unfold supE; rw [if_neg z1, if_pos z2]
         have h5 := firstE_at hk hs (by rw [hE]; decide)
         have h6 : supersE d = 4 := by
          have := firstE_at (f := fun _ (x : TD) => firstE (supE d x.ss) x.ss) hc hx (by rw [h5, hE]; decide)
          rw [h5, hE] at this
          exact this
         simp -implicitDefEqProofs [S124b, hkl, ok.ss.len, ib, hu, loadM, tb12, gf, z1, ga, z2, h6]
        | false =>
         have hE : supE d x.ss k s = 0 := by unfold supE; rw [if_neg z1, if_neg (by rw [z2]; simp)]
         simp -implicitDefEqProofs [S124b, hkl, ok.ss.len, ib, hu, loadM, tb12, gf, z1, ga, z2, e1]
         exact Next.mk (k + 1) ⟨hk.succ hs hE, by omega⟩ (sub_forget rfl rfl (by simp -implicitDefEqProofs [S124b]) (by simp -implicitDefEqProofs [S124b]))
      ·have hkl' : k = x.ss.length := by have := hk.1; omega
       simp -implicitDefEqProofs [S124b, hkl, ok.ss.len]
       exact Next.mk () (hkl' ▸ hk) (sub_forget rfl rfl (by simp -implicitDefEqProofs [S124b, hkl']) (by simp -implicitDefEqProofs [S124b]))
    ·rintro _ hk
     refine mc_runs ctx12 ?_
     have e1 : IntKind.i64.wrap ((j : Int) + 1) = ((j + 1 : Nat) : Int) := wrap_nat (by omega) (by omega)
     simp -implicitDefEqProofs [S124b, e1]
     exact Next.mk (j + 1) ⟨hc.succ hx (firstE_none hk), by omega⟩ (sub_forget rfl rfl (by simp -implicitDefEqProofs [S124]) (by simp -implicitDefEqProofs [S124]))
   ·have hj' : j = d.length := by have := hc.1; omega
    refine mc_runs ctx12 ?_
    simp -implicitDefEqProofs [S124, hj, ht.len]
    exact Next.mk () (hj' ▸ hc) (sub_forget rfl rfl (by simp -implicitDefEqProofs [S124, hj']) (by simp -implicitDefEqProofs [S124]))
 ·rintro _ hc
  refine mc_runs ctx12 ?_
  have h6 : supersE d = 0 := firstE_none hc
  simp -implicitDefEqProofs [S124, h6]
noncomputable def readyB (x : TD) (l : List Str) : Bool := x.ss.all fun s => hasS l s
def S138 (x : TD) (u : T) (j : Nat) : AState := ⟨[(5, .t (iv (j : Int))), (2, .ptr 0 0), (1, .t u)], [(0, .cells 123 [.t (sv x.name), .t x.supers, .t x.feats])], 1, 21⟩
theorem ready_call {x : TD} (ok : x.OK) {u : T} {l : List Str} (hu : IsS eStr u l) (hl : l.length ≤ cap) : CallT Try.prog G 138 [.ag [sv x.name, x.supers, x.feats], u] (· = bv (readyB x l)) := by
 refine k_r03_ready.call rfl ?_
 unfold M_r03_ready
 refine mc_seq_runs ctx12 ?_
 simp -implicitDefEqProofs [cellsP]
 have hsl := ok.ssl
 unfold cap at hsl
 refine mc_cut (fun _ : Unit => S138 x u x.ss.length) (fun _ => readyB x l = true) (fun _ => rfl) ?_ ?_
 ·refine mc_seq_runs ctx12 ?_
  simp -implicitDefEqProofs
  refine mc_block ?_
  refine mc_while (S138 x u) (fun k => x.ss.length - k) (fun k => k ≤ x.ss.length ∧ ∀ (i : Nat) s, i < k → x.ss[i]? = some s → hasS l s = true) 0 (fun _ => rfl) ⟨Nat.zero_le _, fun i s h => by omega⟩ ?_ rfl ?_
  ·refine sub_forget rfl rfl ?_ ?_ <;> simp -implicitDefEqProofs [S138]
  ·rintro k ⟨hk, hg⟩
   refine mc_runs ctx12 ?_
   by_cases hkl : k < x.ss.length
   ·obtain ⟨s, hs⟩ : ∃ s, x.ss[k]? = some s := ⟨_, List.getElem?_eq_getElem hkl⟩
    have ib := ok.ss.iaddr hs .i64
    simp only [eStr, List.cons_append, List.nil_append] at ib
    have ga := gAmong_eq hu s hl
    have e1 : IntKind.i64.wrap ((k : Int) + 1) = ((k + 1 : Nat) : Int) := wrap_nat (by omega) (by omega)
    cases z : hasS l s with
    | true =>
     simp -implicitDefEqProofs [S138, hkl, loadM, ok.ss.len, ib, tb12, ga, z, e1]
     refine Next.mk (k + 1) ⟨⟨by omega, fun i y hi hy => ?_⟩, by omega⟩ (sub_forget rfl rfl (by simp -implicitDefEqProofs [S138]) (by simp -implicitDefEqProofs [S138]))
     by_cases e : i = k
     ·subst e; rw [hs] at hy; injection hy with hy; subst hy; exact z
     ·exact hg i y (by omega) hy
    | false =>
     have hr : readyB x l = false := by
      unfold readyB
      rw [List.all_eq_false]
      exact ⟨s, List.mem_of_getElem? hs, by rw [z]; simp⟩
     simp -implicitDefEqProofs [S138, hkl, loadM, ok.ss.len, ib, tb12, ga, z, hr]
   ·have hk' : k = x.ss.length := by omega
    simp -implicitDefEqProofs [S138, hkl, loadM, ok.ss.len]
    refine Next.mk () ?_ (sub_forget rfl rfl (by simp -implicitDefEqProofs [S138, hk']) (by simp -implicitDefEqProofs [S138]))
    unfold readyB
    rw [List.all_eq_true]
    intro s hs
    obtain ⟨i, hi, e⟩ := List.getElem_of_mem hs
    exact hg i s (by omega) (by rw [List.getElem?_eq_getElem hi, e])
 ·rintro _ hr
  refine mc_runs ctx12 ?_
  simp -implicitDefEqProofs [S138, hr]
theorem nodup_le {α : Type} : ∀ {l m : List α}, l.Nodup → (∀ x ∈ l, x ∈ m) → l.length ≤ m.length
 | [], m, _, _ => by simp
 | a :: l, m, hn, hs => by
  obtain ⟨m1, m2, e⟩ := List.append_of_mem (hs a (by simp))
  rw [List.nodup_cons] at hn
  have := nodup_le (l := l) (m := m1 ++ m2) hn.2 fun x hx => by
   have h1 := hs x (by simp [hx])
   rw [e] at h1
   simp only [List.mem_append, List.mem_cons] at h1 ⊢
   rcases h1 with h1 | rfl | h1
   ·exact .inl h1
   ·exact absurd hx hn.1
   ·exact .inr h1
  rw [e]
  simp only [List.length_append, List.length_cons] at this ⊢
  omega
noncomputable def pickStep (out : List Str) (st : Bool × Str) (x : TD) : Bool × Str :=
 if hasS out x.name || !readyB x out then st else (true, if !st.1 || lessS x.name st.2 then x.name else st.2)
abbrev emptyS : Str := ⟨#[]⟩
noncomputable def pick (d : List TD) (out : List Str) : Bool × Str := d.foldl (pickStep out) (false, emptyS)
noncomputable def pickUp (d : List TD) (out : List Str) (i : Nat) : Bool × Str := (d.take i).foldl (pickStep out) (false, emptyS)
theorem pickUp_succ {d : List TD} {out : List Str} {i : Nat} {x : TD} (h : d[i]? = some x) : pickUp d out (i + 1) = pickStep out (pickUp d out i) x := by
 unfold pickUp
 rw [List.take_add_one, h]
 simp [List.foldl_append]
theorem pickUp_all (d : List TD) (out : List Str) : pickUp d out d.length = pick d out := by unfold pickUp pick; rw [List.take_length]
theorem pick_true {d : List TD} {out : List Str} (h : (pick d out).1 = true) : ∃ x ∈ d, x.name = (pick d out).2 ∧ hasS out x.name = false ∧ readyB x out = true := by
 have key : ∀ (l : List TD) (st : Bool × Str), (∀ x ∈ l, x ∈ d) → (st.1 = true → ∃ x ∈ d, x.name = st.2 ∧ hasS out x.name = false ∧ readyB x out = true) →
   (l.foldl (pickStep out) st).1 = true → ∃ x ∈ d, x.name = (l.foldl (pickStep out) st).2 ∧ hasS out x.name = false ∧ readyB x out = true := by
  intro l
  induction l with
  | nil => intro st _ hst h; exact hst h
  | cons x l ih =>
   intro st hl hst h
   rw [List.foldl_cons] at h ⊢
   refine ih _ (fun y hy => hl y (by simp [hy])) (fun hs => ?_) h
   unfold pickStep at hs ⊢
   split at hs
   ·rename_i h1
    rw [if_pos h1]
    exact hst hs
   ·rename_i h1
    rw [if_neg h1]
    simp only [Bool.or_eq_true, Bool.not_eq_true', not_or, Bool.not_eq_false] at h1
    by_cases h2 : (!st.1 || lessS x.name st.2) = true
    ·rw [if_pos h2]
     exact ⟨x, hl x (by simp), rfl, by simpa using h1.1, h1.2⟩
    ·rw [if_neg h2]
     simp only [Bool.or_eq_true, Bool.not_eq_true', not_or, Bool.not_eq_false] at h2
     exact hst h2.1
 exact key d (false, emptyS) (fun x hx => hx) (fun h => by cases h) h
theorem pick_false {d : List TD} {out : List Str} (h : (pick d out).1 = false) : ∀ x ∈ d, hasS out x.name = true ∨ readyB x out = false := by
 have mono : ∀ (l : List TD) (st : Bool × Str), st.1 = true → (l.foldl (pickStep out) st).1 = true := by
  intro l
  induction l with
  | nil => intro st h; exact h
  | cons x l ih =>
   intro st h
   rw [List.foldl_cons]
   apply ih
   unfold pickStep
   split
   ·exact h
   ·rfl
 have key : ∀ (l : List TD) (st : Bool × Str), (l.foldl (pickStep out) st).1 = false → ∀ x ∈ l, hasS out x.name = true ∨ readyB x out = false := by
  intro l
  induction l with
  | nil => intro st _ x hx; cases hx
  | cons y l ih =>
   intro st h x hx
   rw [List.foldl_cons] at h
   rcases List.mem_cons.1 hx with rfl | hx
   ·by_cases h1 : (hasS out x.name || !readyB x out) = true
    ·simpa using h1
    ·exfalso
     have : (pickStep out st x).1 = true := by unfold pickStep; rw [if_neg h1]
     rw [mono l _ this] at h
     cases h
   ·exact ih _ h x hx
 exact key d _ h
noncomputable def placedF (d : List TD) : Nat → List Str → List Str
 | 0, out => out
 | k + 1, out => if (pick d out).1 then placedF d k (out ++ [(pick d out).2]) else out
noncomputable def placed (d : List TD) : List Str := placedF d (d.length + 1) []
theorem placedF_stop {d : List TD} {out : List Str} (h : (pick d out).1 = false) (k : Nat) : placedF d k out = out := by
 cases k with
 | zero => rfl
 | succ k => simp [placedF, h]
structure Plc (d : List TD) (out : List Str) : Prop where
 nodup : out.Nodup
 sub : ∀ s ∈ out, ∃ x ∈ d, x.name = s
 eq : placedF d (d.length + 1 - out.length) out = placed d
theorem Plc.le {d : List TD} {out : List Str} (h : Plc d out) : out.length ≤ d.length := by
 have := nodup_le (m := d.map TD.name) h.nodup fun s hs => by
  obtain ⟨x, hx, e⟩ := h.sub s hs
  exact List.mem_map.2 ⟨x, hx, e⟩
 simpa using this
theorem Plc.nil (d : List TD) : Plc d [] := ⟨List.nodup_nil, (fun _ h => by cases h), rfl⟩
theorem Plc.next {d : List TD} {out : List Str} (h : Plc d out) (hp : (pick d out).1 = true) : Plc d (out ++ [(pick d out).2]) := by
 obtain ⟨x, hx, e, h1, h2⟩ := pick_true hp
 have hle := h.le
 refine ⟨?_, ?_, ?_⟩
 ·rw [List.nodup_append]
  refine ⟨h.nodup, by simp, fun a ha b hb => ?_⟩
  simp only [List.mem_singleton] at hb
  subst hb
  intro e2
  subst e2
  rw [← e] at ha
  rw [(hasS_iff out x.name).2 ha] at h1
  cases h1
 ·intro s hs
  rcases List.mem_append.1 hs with hs | hs
  ·exact h.sub s hs
  ·simp only [List.mem_singleton] at hs
   exact ⟨x, hx, by rw [hs, e]⟩
 ·rw [← h.eq, List.length_append, List.length_singleton, show d.length + 1 - out.length = (d.length + 1 - (out.length + 1)) + 1 by omega]
  simp [placedF, hp]
noncomputable def gReady : List T → Option T := g2 (tAg eTD) (tSl eStr) fun x l => open Classical in if x.OK ∧ l.length ≤ cap then some (bv (readyB x l)) else none
theorem ready_ok : GOK Try.prog G 138 gReady := g2_ok fun a b x y r ha hb hr => by
 obtain rfl : a = .ag (eTD.enc x) := ha
 split at hr
 ·rename_i h; injection hr with hr; subst hr; exact ready_call h.1 hb h.2
 ·cases hr
theorem gReady_eq {x : TD} (ok : x.OK) {u : T} {l : List Str} (hu : IsS eStr u l) (hl : l.length ≤ cap) : gReady [.ag [sv x.name, x.supers, x.feats], u] = some (bv (readyB x l)) := by
 exact (g2_eq (τ := tAg eTD) (σ := tSl eStr) (x := x) (y := l) rfl hu).trans (if_pos ⟨ok, hl⟩)
noncomputable def tb13 : Tbl := [(127, gAmong), (138, gReady)]
theorem ctx13 : Ctx Try.prog G (orc tb13) := (TblOK.cons among_ok (.cons ready_ok .nil)).ctx mixed
def S125 (t : T) (a : Bool × List Str) : AState := ⟨[(4, .t (bv a.1)), (3, rowP eStr 0 a.2), (0, .t t)], rowH eStr 9 0 a.2, 1, 52⟩
noncomputable def S125b (t : T) (d : List TD) (out : List Str) (i : Nat) : AState := ⟨[(6, .t (iv (i : Int))), (5, .t (sv (pickUp d out i).2)), (4, .t (bv (pickUp d out i).1)), (3, rowP eStr 0 out), (0, .t t)], rowH eStr 9 0 out, 1, 52⟩
theorem placed_call {t : T} {d : List TD} (ht : IsS eTD t d) (hd : DOK d) : CallT Try.prog G 125 [t] (· = treeS eStr (placed d)) := by
 obtain ⟨hdl, hd⟩ := hd
 refine k_r03_placed.call rfl ?_
 unfold M_r03_placed
 refine mc_seq_runs ctx13 ?_
 simp -implicitDefEqProofs
 refine mc_seq_runs ctx13 ?_
 simp -implicitDefEqProofs
 refine mc_cut (fun _ : Unit => S125 t (false, placed d)) (fun _ => True) (fun _ => rfl) ?_ ?_
 ·refine mc_seq_runs ctx13 ?_
  simp -implicitDefEqProofs
  refine mc_block ?_
  refine mc_while (S125 t) (fun a => if a.1 then d.length + 2 - a.2.length else 0) (fun a => Plc d a.2 ∧ (a.1 = false → (pick d a.2).1 = false)) (true, []) (fun _ => rfl) ⟨Plc.nil d, fun h => by cases h⟩ ?_ rfl ?_
  ·exact sub_row1 (k := 0) (RowAt.nil _ _ _ _) (by omega) (by omega) (by simp -implicitDefEqProofs [rowP, ren, under])
  ·rintro ⟨m, out⟩ ⟨hp, hm⟩
   have hle : out.length ≤ d.length := hp.le
   have r0 := RowAt.head' eStr 9 0 out
   have tt := r0.toT
   cases m with
   | false =>
    have he : out = placed d := by rw [← hp.eq, placedF_stop (hm rfl)]
    refine mc_runs ctx13 ?_
    simp -implicitDefEqProofs [S125]
    rw [he]
    exact Next.mk () trivial (Sub.refl _ |>.trans (sub_row1 (k := 0) (RowAt.head' _ _ _ _) (by omega) (by omega) (by simp -implicitDefEqProofs [ren_rowP, under_rowP, ren, under])))
   | true =>
    refine mc_seq_runs ctx13 ?_
    simp -implicitDefEqProofs [S125]
    refine mc_block ?_
    refine mc_seq_runs ctx13 ?_
    simp -implicitDefEqProofs
    refine mc_seq_runs ctx13 ?_
    simp -implicitDefEqProofs
    refine mc_cut (fun _ : Unit => S125b t d out d.length) (fun _ => True) (fun _ => rfl) ?_ ?_
    ·refine mc_seq_runs ctx13 ?_
     simp -implicitDefEqProofs
     refine mc_block ?_
     refine mc_for (S125b t d out) d.length (fun _ => rfl) ?_ rfl ?_ ?_
     ·exact sub_row1 (k := 0) r0 (by omega) (by omega) (by simp -implicitDefEqProofs [pickUp, ren_rowP, under_rowP, ren, under])
     ·intro i hi
      refine mc_runs ctx13 ?_
      obtain ⟨x, hx⟩ : ∃ x, d[i]? = some x := ⟨_, List.getElem?_eq_getElem hi⟩
      have ok := hd x (List.mem_of_getElem? hx)
      have e1 : IntKind.i64.wrap ((i : Int) + 1) = ((i + 1 : Nat) : Int) := wrap_nat (by omega) (by omega)
      have ia := ht.iaddr hx .i64
      simp only [eTD, List.cons_append, List.nil_append] at ia
      have ga := gAmong_eq (IsS.tree eStr out) x.name (by unfold cap; omega)
      have gr := gReady_eq ok (IsS.tree eStr out) (by unfold cap; omega)
      have ps := pickUp_succ (out := out) hx
      unfold pickStep at ps
      cases z1 : hasS out x.name with
      | true =>
       rw [z1] at ps
       simp only [Bool.true_or, if_true] at ps
       simp -implicitDefEqProofs [S125b, hi, ht.len, ia, loadM, tt, tb13, ga, z1, e1]
       exact sub_row1 (k := 0) r0 (by omega) (by omega) (by simp -implicitDefEqProofs [ps, ren_rowP, under_rowP, ren, under])
      | false =>
       cases z2 : readyB x out with
       | false =>
        rw [z1, z2] at ps
        simp only [Bool.false_or, Bool.not_false, if_true] at ps
        simp -implicitDefEqProofs [S125b, hi, ht.len, ia, loadM, tt, tb13, ga, gr, z1, z2, e1]
        exact sub_row1 (k := 0) r0 (by omega) (by omega) (by simp -implicitDefEqProofs [ps, ren_rowP, under_rowP, ren, under])
       | true =>
        rw [z1, z2] at ps
        simp only [Bool.false_or, Bool.not_true, Bool.false_eq_true, if_false] at ps
        cases z3 : (pickUp d out i).1 with
        | false =>
         rw [z3] at ps
         simp only [Bool.not_false, Bool.true_or, if_true] at ps
         simp -implicitDefEqProofs [S125b, hi, ht.len, ia, loadM, tt, tb13, ga, gr, z1, z2, z3, e1]
         exact sub_row1 (k := 0) r0 (by omega) (by omega) (by simp -implicitDefEqProofs [ps, ren_rowP, under_rowP, ren, under])
        | true =>
         rw [z3] at ps
         cases z4 : lessS x.name (pickUp d out i).2 with
         | true =>
          rw [z4] at ps
          simp only [Bool.or_true, if_true] at ps
          simp -implicitDefEqProofs [S125b, hi, ht.len, ia, loadM, tt, tb13, ga, gr, z1, z2, z3, z4, e1]
          exact sub_row1 (k := 0) r0 (by omega) (by omega) (by simp -implicitDefEqProofs [ps, ren_rowP, under_rowP, ren, under])
         | false =>
          rw [z4] at ps
          simp only [Bool.not_true, Bool.or_self, Bool.false_eq_true, if_false] at ps
          simp -implicitDefEqProofs [S125b, hi, ht.len, ia, loadM, tt, tb13, ga, gr, z1, z2, z3, z4, e1]
          exact sub_row1 (k := 0) r0 (by omega) (by omega) (by simp -implicitDefEqProofs [ps, ren_rowP, under_rowP, ren, under])
     ·refine mc_runs ctx13 ?_
      simp -implicitDefEqProofs [S125b, ht.len]
      exact Next.mk () trivial (sub_row1 (k := 0) r0 (by omega) (by omega) (by simp -implicitDefEqProofs [ren_rowP, under_rowP, ren, under]))
    ·rintro _ -
     refine mc_runs ctx13 ?_
     have pa := pickUp_all d out
     cases z : (pick d out).1 with
     | false =>
      simp -implicitDefEqProofs [S125b, pa, z]
      refine Next.mk (false, out) ⟨⟨hp, fun _ => z⟩, by simp; omega⟩ (sub_row1 (k := 0) r0 (by omega) (by omega) (by simp -implicitDefEqProofs [ren_rowP, under_rowP, ren, under]))
     | true =>
      have hn := hp.next z
      have hnl : (out ++ [(pick d out).2]).length ≤ d.length := hn.le
      rw [List.length_append, List.length_singleton] at hnl
      have bs : bsliceM 9 1 [.string ⟨#[]⟩] 1 [(0, .t (sv (pick d out).2))] 1 = some (.row 1 0 1 1, .cells 9 [.t (sv (pick d out).2)]) := rfl
      obtain ⟨b2, H2, n2, ap2, r2, ne2, _⟩ := app_some (e := eStr) (ty := 9) (by' := 16) (nx := 2) (m := [(pick d out).2]) (r0.cons (k := 1) (r := .cells 9 [.t (sv (pick d out).2)]) (by omega)) (src_one (b := 1) (ty := 9) _ (by simp [eStr])) (by simp; omega) (by simp; omega)
      have hsz : eStr.z = 1 := rfl
      rw [hsz] at ap2
      simp -implicitDefEqProofs [S125b, pa, z, bs, ap2]
      refine Next.mk (true, out ++ [(pick d out).2]) ⟨⟨hn, fun h => by cases h⟩, by simp; omega⟩ (sub_row1 (k := b2) r2 (by omega) (by omega) (by simp -implicitDefEqProofs [ren_rowP, under_rowP, ren, under]))
 ·rintro _ -
  refine mc_runs ctx13 ?_
  have tt := (RowAt.head' eStr 9 0 (placed d)).toT
  simp -implicitDefEqProofs [S125, tt]
noncomputable def gD (f : List TD → T) : List T → Option T := g1 (tSl eTD) fun d => open Classical in if DOK d then some (f d) else none
theorem gD_ok {F : Nat} {f : List TD → T} (h : ∀ {t : T} {d : List TD}, IsS eTD t d → DOK d → CallT Try.prog G F [t] (· = f d)) : GOK Try.prog G F (gD f) := g1_ok fun a x r ha hr => by
 split at hr
 ·rename_i hd; injection hr with hr; subst hr; exact h ha hd
 ·cases hr
theorem gD_eq {f : List TD → T} {t : T} {d : List TD} (ht : IsS eTD t d) (hd : DOK d) : gD f [t] = some (f d) :=
 (g1_eq (τ := tSl eTD) ht).trans (if_pos hd)
noncomputable def rootsUp (d : List TD) (j : Nat) : Nat := (d.take j).countP fun x => x.ss.isEmpty
noncomputable def roots (d : List TD) : Nat := d.countP fun x => x.ss.isEmpty
theorem rootsUp_succ {d : List TD} {j : Nat} {x : TD} (h : d[j]? = some x) : rootsUp d (j + 1) = rootsUp d j + if x.ss.length = 0 then 1 else 0 := by
 unfold rootsUp
 rw [List.take_add_one, h, List.countP_append]
 by_cases hx : x.ss.length = 0
 ·have : x.ss.isEmpty = true := by simpa using hx
  rw [if_pos hx]
  simp [this]
 ·have : x.ss.isEmpty = false := by
   cases h2 : x.ss with
   | nil => rw [h2] at hx; simp at hx
   | cons a r => rfl
  rw [if_neg hx]
  simp [this]
theorem rootsUp_le (d : List TD) (j : Nat) : rootsUp d j ≤ d.length := by
 unfold rootsUp
 have := List.countP_le_length (p := fun x : TD => x.ss.isEmpty) (l := d.take j)
 simp at this
 omega
noncomputable def checkE (d : List TD) : Int :=
 if sizesE d ≠ 0 then sizesE d else if namesE d ≠ 0 then namesE d else if supersE d ≠ 0 then supersE d else if roots d ≠ 1 then 1 else if (placed d).length < d.length then 6 else 0
noncomputable def tb14 : Tbl := [(122, gD fun d => iv (sizesE d)), (123, gD fun d => iv (namesE d)), (124, gD fun d => iv (supersE d)), (125, gD fun d => treeS eStr (placed d))]
theorem ctx14 : Ctx Try.prog G (orc tb14) := (TblOK.cons (gD_ok sizes_call) (.cons (gD_ok namesC_call) (.cons (gD_ok supers_call) (.cons (gD_ok placed_call) .nil)))).ctx mixed
noncomputable def S101 (t : T) (d : List TD) (j : Nat) : AState := ⟨[(7, .t (iv (j : Int))), (6, .t (iv (rootsUp d j : Int))), (0, .t t)], [], 0, 46⟩
theorem neq_zero {E : Int} (h : ¬ E = 0) : (E != 0) = true := by simpa using h
theorem check3_call {t : T} {d : List TD} (ht : IsS eTD t d) (hd : DOK d) : CallT Try.prog G 101 [t] (· = iv (checkE d)) := by
 have hdl := hd.1
 have q1 := gD_eq (f := fun d => iv (sizesE d)) ht hd
 have q2 := gD_eq (f := fun d => iv (namesE d)) ht hd
 have q3 := gD_eq (f := fun d => iv (supersE d)) ht hd
 have q4 := gD_eq (f := fun d => treeS eStr (placed d)) ht hd
 refine k_r03_Check.call rfl ?_
 unfold M_r03_Check
 refine mc_seq_runs ctx14 ?_
 simp -implicitDefEqProofs
 by_cases h1 : sizesE d = 0
 ·refine mc_seq_runs ctx14 ?_
  simp -implicitDefEqProofs [tb14, q1, h1]
  by_cases h2 : namesE d = 0
  ·refine mc_seq_runs ctx14 ?_
   simp -implicitDefEqProofs [tb14, q2, h2]
   by_cases h3 : supersE d = 0
   ·refine mc_seq_runs ctx14 ?_
    simp -implicitDefEqProofs [tb14, q3, h3]
    refine mc_seq_runs ctx14 ?_
    simp -implicitDefEqProofs
    have hE : checkE d = if roots d ≠ 1 then 1 else if (placed d).length < d.length then 6 else 0 := by simp [checkE, h1, h2, h3]
    rw [hE]
    refine mc_cut (fun _ : Unit => S101 t d d.length) (fun _ => True) (fun _ => rfl) ?_ ?_
    ·refine mc_seq_runs ctx14 ?_
     simp -implicitDefEqProofs
     refine mc_block ?_
     refine mc_for (S101 t d) d.length (fun _ => rfl) ?_ rfl ?_ ?_
     ·refine sub_forget rfl rfl ?_ ?_ <;> simp -implicitDefEqProofs [S101, rootsUp]
     ·intro j hj
      refine mc_runs ctx14 ?_
      obtain ⟨x, hx⟩ : ∃ x, d[j]? = some x := ⟨_, List.getElem?_eq_getElem hj⟩
      have ok := hd.2 x (List.mem_of_getElem? hx)
      have e1 : IntKind.i64.wrap ((j : Int) + 1) = ((j + 1 : Nat) : Int) := wrap_nat (by omega) (by omega)
      have hr := rootsUp_le d j
      have e2 : IntKind.i64.wrap ((rootsUp d j : Int) + 1) = ((rootsUp d j + 1 : Nat) : Int) := wrap_nat (by omega) (by omega)
      have ia := ht.iaddr hx .i64
      simp only [eTD, List.cons_append, List.nil_append] at ia
      have rs := rootsUp_succ hx
      by_cases z : x.ss.length = 0
      ·rw [if_pos z] at rs
       have z' : ((x.ss.length : Int) == 0) = true := by rw [z]; rfl
       simp -implicitDefEqProofs [S101, hj, ht.len, ia, loadM, ok.ss.len, z', e1, e2]
       refine sub_forget rfl rfl ?_ ?_ <;> simp -implicitDefEqProofs [rs]
      ·rw [if_neg z] at rs
       have z' : ((x.ss.length : Int) == 0) = false := by rw [beq_eq_false_iff_ne]; omega
       simp -implicitDefEqProofs [S101, hj, ht.len, ia, loadM, ok.ss.len, z', e1]
       refine sub_forget rfl rfl ?_ ?_ <;> simp -implicitDefEqProofs [rs]
     ·refine mc_runs ctx14 ?_
      simp -implicitDefEqProofs [S101, ht.len]
      exact Next.mk () trivial (sub_forget rfl rfl (by simp -implicitDefEqProofs) (by simp -implicitDefEqProofs))
    ·rintro _ -
     refine mc_runs ctx14 ?_
     have ra : rootsUp d d.length = roots d := by unfold rootsUp roots; rw [List.take_length]
     by_cases h4 : roots d = 1
     ·have h4' : ((roots d : Int) != 1) = false := by rw [h4]; rfl
      by_cases h5 : (placed d).length < d.length
      ·simp -implicitDefEqProofs [S101, ra, h4', h4, tb14, q4, (IsS.tree eStr (placed d)).len, ht.len, h5]
      ·simp -implicitDefEqProofs [S101, ra, h4', h4, tb14, q4, (IsS.tree eStr (placed d)).len, ht.len, h5]
     ·have h4' : ((roots d : Int) != 1) = true := by simp; omega
      simp -implicitDefEqProofs [S101, ra, h4', h4]
   ·have hE : checkE d = supersE d := by simp [checkE, h1, h2, h3]
    rw [hE]
    have h3' := neq_zero h3
    refine mc_runs ctx14 ?_
    simp -implicitDefEqProofs [tb14, q3, h3']
  ·have hE : checkE d = namesE d := by simp [checkE, h1, h2]
   rw [hE]
   have h2' := neq_zero h2
   refine mc_runs ctx14 ?_
   simp -implicitDefEqProofs [tb14, q2, h2']
 ·have hE : checkE d = sizesE d := by simp [checkE, h1]
  rw [hE]
  have h1' := neq_zero h1
  refine mc_runs ctx14 ?_
  simp -implicitDefEqProofs [tb14, q1, h1']
theorem idxOf_spec {d : List TD} {s : Str} (h : idxOf d s < d.length) : ∃ x, d[idxOf d s]? = some x ∧ x.name = s := by
 obtain ⟨x, hx, hp⟩ := findIdx_hit (p := fun x : TD => decide (x.name = s)) (l := d) h
 exact ⟨x, hx, by simpa using hp⟩
theorem idxOf_le {d : List TD} {s : Str} {i : Nat} {x : TD} (hx : d[i]? = some x) (hs : x.name = s) : idxOf d s ≤ i := by
 rcases Nat.lt_or_ge i (idxOf d s) with h | h
 ·have := findIdx_not (p := fun x : TD => decide (x.name = s)) (l := d) h hx
  simp [hs] at this
 ·exact h
structure Good (d : List TD) : Prop where
 ok : DOK d
 len : d.length ≤ 256
 ssl : ∀ x ∈ d, x.ss.length ≤ 256
 fsl : ∀ x ∈ d, x.fs.length ≤ 256
 idx : ∀ (i : Nat) x, d[i]? = some x → idxOf d x.name = i
 sup : ∀ x ∈ d, ∀ s ∈ x.ss, idxOf d s < d.length
 plc : d.length ≤ (placed d).length
 ne : 0 < d.length
theorem good_of_check {d : List TD} (hd : DOK d) (h : checkE d = 0) : Good d := by
 unfold checkE at h
 have h1 : sizesE d = 0 := Classical.byContradiction fun h1 => by rw [if_pos h1] at h; exact h1 h
 rw [if_neg (by rw [h1]; simp)] at h
 have h2 : namesE d = 0 := Classical.byContradiction fun h1 => by rw [if_pos h1] at h; exact h1 h
 rw [if_neg (by rw [h2]; simp)] at h
 have h3 : supersE d = 0 := Classical.byContradiction fun h1 => by rw [if_pos h1] at h; exact h1 h
 rw [if_neg (by rw [h3]; simp)] at h
 have h4 : roots d = 1 := Classical.byContradiction fun h1 => by rw [if_pos h1] at h; cases h
 rw [if_neg (by rw [h4]; simp)] at h
 have h5 : ¬ (placed d).length < d.length := fun h1 => by rw [if_pos h1] at h; cases h
 have s0 : ¬ 256 < d.length := fun h6 => by
  have : sizesE d = 7 := by unfold sizesE; rw [if_pos h6]
  rw [this] at h1
  cases h1
 have s1 : Clear (fun _ x => sizeE x) d d.length := firstE_zero (by
  have : sizesE d = firstE (fun _ x => sizeE x) d := by unfold sizesE firstE; rw [if_neg s0]
  rw [← this]; exact h1)
 have s2 : Clear (nameE d) d d.length := firstE_zero (by rw [← namesE_eq]; exact h2)
 have s3 : Clear (fun _ x => firstE (supE d x.ss) x.ss) d d.length := firstE_zero h3
 have at_ : ∀ x ∈ d, ∃ i : Nat, i < d.length ∧ d[i]? = some x := fun x hx => by
  obtain ⟨i, hi, e⟩ := List.getElem_of_mem hx
  exact ⟨i, hi, by rw [List.getElem?_eq_getElem hi, e]⟩
 have sz : ∀ x ∈ d, x.ss.length ≤ 256 ∧ x.fs.length ≤ 256 := fun x hx => by
  obtain ⟨i, hi, e⟩ := at_ x hx
  have : sizeE x = 0 := s1.2 i x hi e
  unfold sizeE at this
  split at this
  ·cases this
  ·omega
 refine ⟨hd, by omega, fun x hx => (sz x hx).1, fun x hx => (sz x hx).2, fun i x hx => ?_, fun x hx s hs => ?_, by omega, ?_⟩
 ·have hi := (List.getElem?_eq_some_iff.1 hx).1
  have hn := s2.2 i x hi hx
  have hle := idxOf_le hx rfl
  unfold nameE at hn
  split at hn
  ·cases hn
  ·split at hn
   ·cases hn
   ·rename_i hf
    unfold findD at hf
    rw [if_pos (by omega)] at hf
    omega
 ·obtain ⟨i, hi, e⟩ := at_ x hx
  have h6 := firstE_zero (s3.2 i x hi e)
  obtain ⟨k, hk, e2⟩ := List.getElem_of_mem hs
  have := h6.2 k s hk (by rw [List.getElem?_eq_getElem hk, e2])
  unfold supE at this
  split at this
  ·cases this
  ·rename_i hf
   unfold findD at hf
   split at hf
   ·assumption
   ·omega
 ·cases d with
  | nil => simp [roots] at h4
  | cons x r => simp
end Go.Proofs.Ytbiadmfmjnoecaa
