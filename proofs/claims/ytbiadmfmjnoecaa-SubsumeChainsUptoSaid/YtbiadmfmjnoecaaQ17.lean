/-
  The examples of chapter 09 hold.
  hierarchy and fits of the law; Subsumes.
  fits of the law; Subsumes; the law SubsumeMaps returns true.
-/
import Derived.Test.YtbiadmfmjnoecaaQ16
import Derived.Test.YtbiadmfmjnoecaaQ15
import Derived.Test.YtbiadmfmjnoecaaQ12
namespace Go.Proofs.Ytbiadmfmjnoecaa
set_option linter.unusedSimpArgs false
set_option linter.unusedVariables false
open Go Go.Abs
theorem example9 : CallT Try.prog G 17 [] (· = .v (.bool true)) := (callM'_sound mixed tabX_ok (memo := [(49, x_small_a, x_small_r)]) (MemoOK.cons x_small MemoOK.nil) 400 30).t _ _ _ (by kernel_rfl)
def mkTD (name : Str) (ss : List Str) (fs : List FD) : TD := ⟨name, treeS eStr ss, treeS eFD fs⟩
theorem mkTD_ok {name : Str} {ss : List Str} {fs : List FD} (h1 : ss.length ≤ cap) (h2 : fs.length ≤ cap) (h3 : name.size ≤ cap) (h4 : ∀ f ∈ fs, f.feat.size ≤ cap) : (mkTD name ss fs).OK := by
 have e1 : (mkTD name ss fs).ss = ss := TD.ss_eq (IsS.tree _ _)
 have e2 : (mkTD name ss fs).fs = fs := TD.fs_eq (IsS.tree _ _)
 exact ⟨by rw [e1]; exact IsS.tree _ _, by rw [e2]; exact IsS.tree _ _, by rw [e1]; exact h1, by rw [e2]; exact h2, h3, by rw [e2]; exact h4⟩
def preD : List TD := [mkTD ⟨#[116, 111, 112]⟩ [] [],
 mkTD ⟨#[108, 105, 115, 116]⟩ [⟨#[116, 111, 112]⟩] [],
 mkTD ⟨#[99, 111, 110, 115]⟩ [⟨#[108, 105, 115, 116]⟩] [⟨⟨#[70, 73, 82, 83, 84]⟩, ⟨#[116, 111, 112]⟩⟩, ⟨⟨#[82, 69, 83, 84]⟩, ⟨#[108, 105, 115, 116]⟩⟩],
 mkTD ⟨#[110, 117, 108, 108]⟩ [⟨#[108, 105, 115, 116]⟩] [],
 mkTD ⟨#[100, 108, 105, 115, 116]⟩ [⟨#[116, 111, 112]⟩] [⟨⟨#[76, 73, 83, 84]⟩, ⟨#[108, 105, 115, 116]⟩⟩, ⟨⟨#[76, 65, 83, 84]⟩, ⟨#[108, 105, 115, 116]⟩⟩],
 mkTD ⟨#[105, 110, 100, 101, 120]⟩ [⟨#[116, 111, 112]⟩] [],
 mkTD ⟨#[104, 97, 110, 100, 108, 101]⟩ [⟨#[105, 110, 100, 101, 120]⟩] [],
 mkTD ⟨#[101, 118, 101, 110, 116]⟩ [⟨#[105, 110, 100, 101, 120]⟩] [],
 mkTD ⟨#[101, 110, 116, 105, 116, 121]⟩ [⟨#[105, 110, 100, 101, 120]⟩] [],
 mkTD ⟨#[114, 101, 108]⟩ [⟨#[116, 111, 112]⟩] [⟨⟨#[76, 65, 66, 69, 76]⟩, ⟨#[104, 97, 110, 100, 108, 101]⟩⟩],
 mkTD ⟨#[113, 101, 113]⟩ [⟨#[116, 111, 112]⟩] [⟨⟨#[72, 73, 71, 72]⟩, ⟨#[104, 97, 110, 100, 108, 101]⟩⟩, ⟨⟨#[76, 79, 87]⟩, ⟨#[104, 97, 110, 100, 108, 101]⟩⟩],
 mkTD ⟨#[115, 101, 109]⟩ [⟨#[116, 111, 112]⟩] [⟨⟨#[84, 79, 80]⟩, ⟨#[104, 97, 110, 100, 108, 101]⟩⟩, ⟨⟨#[73, 78, 68, 69, 88]⟩, ⟨#[105, 110, 100, 101, 120]⟩⟩, ⟨⟨#[82, 69, 76, 83]⟩, ⟨#[100, 108, 105, 115, 116]⟩⟩, ⟨⟨#[67, 79, 78, 83]⟩, ⟨#[100, 108, 105, 115, 116]⟩⟩],
 mkTD ⟨#[115, 105, 103, 110]⟩ [⟨#[116, 111, 112]⟩] [⟨⟨#[83, 69, 77]⟩, ⟨#[115, 101, 109]⟩⟩, ⟨⟨#[65, 82, 71, 83]⟩, ⟨#[108, 105, 115, 116]⟩⟩]]
theorem prel_is : IsS eTD x_prel_r preD := .inr rfl
theorem prel_ok : DOK preD := by
 refine ⟨by decide, fun x hx => ?_⟩
 simp only [preD, List.mem_cons, List.not_mem_nil, or_false] at hx
 rcases hx with rfl | rfl | rfl | rfl | rfl | rfl | rfl | rfl | rfl | rfl | rfl | rfl | rfl <;> exact mkTD_ok (by decide) (by decide) (by decide) (by decide)
theorem prel_call : CallT Try.prog G 46 [] (· = x_prel_r) := x_prel
noncomputable def hOf (d : List TD) : List Typ × List Ft := if d.length ≤ 12 ∧ check5E d = 0 then (hierL d, ftL d) else if check5E preD = 0 then (hierL preD, ftL preD) else ([], [])
noncomputable def hT (d : List TD) : T := .ag [treeS eTyp (hOf d).1, treeS eFt (hOf d).2]
theorem hier_ok {d : List TD} (hd : DOK d) (h : check5E d = 0) : TyOK (hierL d) := by
 intro x hx
 obtain ⟨c, hc, e⟩ := tyUp_mem hx
 have := (fit_of_check hd h).cod.size c hc
 rw [e]
 omega
theorem hOf_ok {d : List TD} (hd : d.length ≤ 12 → DOK d) : TyOK (hOf d).1 := by
 unfold hOf
 split
 ·rename_i h
  exact hier_ok (hd h.1) h.2
 ·split
  ·rename_i h
   exact hier_ok prel_ok h
  ·intro x hx
   cases hx
noncomputable def gPrel : List T → Option T
 | [] => some x_prel_r
 | _ => none
theorem gPrel_ok : GOK Try.prog G 46 gPrel := by
 intro args r h
 unfold gPrel at h
 split at h
 ·injection h with h; subst h; exact prel_call
 ·cases h
noncomputable def tw15 : Tbl := [(45, gD compT), (46, gPrel)]
theorem ctw15 : Ctx Try.prog G (orc tw15) := (TblOK.cons (gD_ok compile_call) (.cons gPrel_ok .nil)).ctx mixed
theorem hierarchy_call {F : Nat} {M : MCode} (hM : M = M_w09_hierarchy) (k : FnOK Try.prog G F 1 24 M [.cell 2 true 2]) {t : T} {d : List TD} (ht : IsS eTD t d) (hd : d.length ≤ 12 → DOK d) : CallT Try.prog G F [t] (· = hT d) := by
 have gp : gD compT [x_prel_r] = some (compT preD) := gD_eq prel_is prel_ok
 have gq : gPrel [] = some x_prel_r := rfl
 obtain ⟨pr, hpr⟩ : ∃ pr, pr = x_prel_r := ⟨_, rfl⟩
 rw [← hpr] at gp gq
 have last : ¬ (d.length ≤ 12 ∧ check5E d = 0) → ∃ u v e, compT preD = .tu [.ag [u, v], iv e] ∧ hT d = .ag [u, v] := by
  intro h
  unfold compT hT hOf
  rw [if_neg h]
  by_cases hp : check5E preD = 0
  ·rw [if_neg (by rw [hp]; simp), if_pos hp]
   exact ⟨_, _, _, rfl, rfl⟩
  ·rw [if_pos hp, if_neg hp]
   exact ⟨_, _, _, rfl, rfl⟩
 subst hM
 refine k.call rfl ?_
 unfold M_w09_hierarchy
 refine mc_seq_runs ctw15 ?_
 simp -implicitDefEqProofs
 by_cases h12 : d.length ≤ 12
 ·have h12' : (d.length : Int) ≤ 12 := by omega
  have gc : gD compT [t] = some (compT d) := gD_eq ht (hd h12)
  by_cases hE : check5E d = 0
  ·have hc : compT d = .tu [.ag [treeS eTyp (hierL d), treeS eFt (ftL d)], iv 0] := by unfold compT; rw [if_neg (by rw [hE]; simp)]
   have hr : hT d = .ag [treeS eTyp (hierL d), treeS eFt (ftL d)] := by unfold hT hOf; rw [if_pos ⟨h12, hE⟩]
   generalize treeS eTyp (hierL d) = u at hc hr
   generalize treeS eFt (ftL d) = v at hc hr
   rw [hc] at gc
   have cg : cellsP (.t (.ag [u, v])) = some [.t u, .t v] := rfl
   have ag : agOf [.t u, .t v] = .t (.ag [u, v]) := rfl
   refine mc_seq_runs ctw15 ?_
   simp -implicitDefEqProofs [ht.len, h12, h12', tw15, gc, extractV, loadM, storeM, cg, ag, splice, hr]
  ·obtain ⟨u, v, e, hc, hr⟩ := last (fun h => hE h.2)
   rw [hc] at gp
   have hE' := neq_zero hE
   have hEb : (check5E d == 0) = false := by rw [beq_eq_false_iff_ne]; exact hE
   have hcd : compT d = .tu [.ag [nilS, nilS], iv (check5E d)] := by unfold compT; rw [if_pos hE]
   rw [hcd] at gc
   have cn : cellsP (.t (.ag [nilS, nilS])) = some [.t nilS, .t nilS] := rfl
   have cg : cellsP (.t (.ag [u, v])) = some [.t u, .t v] := rfl
   have ag : agOf [.t u, .t v] = .t (.ag [u, v]) := rfl
   refine mc_seq_runs ctw15 ?_
   simp -implicitDefEqProofs [ht.len, h12, h12', tw15, gc, extractV, loadM, storeM, cn, splice, hE, hEb]
   refine mc_runs ctw15 ?_
   simp -implicitDefEqProofs [tw15, gq, gp, extractV, loadM, storeM, cg, ag, splice, hr]
 ·have h12' : ¬ (d.length : Int) ≤ 12 := by omega
  obtain ⟨u, v, e, hc, hr⟩ := last (fun h => h12 h.1)
  rw [hc] at gp
  have cg : cellsP (.t (.ag [u, v])) = some [.t u, .t v] := rfl
  have ag : agOf [.t u, .t v] = .t (.ag [u, v]) := rfl
  refine mc_seq_runs ctw15 ?_
  simp -implicitDefEqProofs [ht.len, h12, h12']
  refine mc_runs ctw15 ?_
  simp -implicitDefEqProofs [tw15, gq, gp, extractV, loadM, storeM, cg, ag, splice, hr]
structure FSv where
 tree : T
 nodes : List Nd
 ok : IsS eNd tree nodes
def eFS : Enc FSv := ⟨1, fun x => [x.tree], fun _ => rfl, by omega, fun a b h => by
 obtain ⟨a1, a2, a3⟩ := a
 obtain ⟨b1, b2, b3⟩ := b
 injection h with h
 have h : a1 = b1 := h
 subst h
 have := (tSl eNd).uniq _ _ _ a3 b3
 subst this
 rfl⟩
theorem ia_FS {t : T} {l : List FSv} (h : IsS eFS t l) {i : Nat} {x : FSv} (hx : l[i]? = some x) : iaddrM 1 (.t t) (.t (iv (i : Int))) = some (.t (.pt (x.tree :: rest eFS l i))) := h.iaddr hx .i64
theorem light_small {l : List Nd} (h : lightB l = true) : Small l := by
 obtain ⟨h1, h2⟩ := lightB_true h
 exact ⟨by omega, fun x hx => by have := h2 x hx; omega⟩
noncomputable def gLight : List T → Option T := g1 tFS fun l => some (bv (lightB l))
theorem gLight_ok : GOK Try.prog G 47 gLight := g1_ok fun a x r ha hr => by
 obtain ⟨u, rfl, hu⟩ := ha
 injection hr with hr; subst hr; exact light_call hu
theorem gLight_eq {t : T} {l : List Nd} (ht : IsS eNd t l) : gLight [.ag [t]] = some (bv (lightB l)) := g1_eq (τ := tFS) ⟨t, rfl, ht⟩
noncomputable def gCheck7 : List T → Option T := g2 tH tFS fun h l => open Classical in if Small l then some (iv (check7E h.1.length h.2.length l)) else none
theorem gCheck7_ok : GOK Try.prog G 48 gCheck7 := g2_ok fun a b h l r ha hb hr => by
 obtain ⟨u, v, rfl, hu, hv⟩ := ha
 obtain ⟨w, rfl, hw⟩ := hb
 split at hr
 ·rename_i hs; injection hr with hr; subst hr; exact check7_call hu hv hw hs
 ·cases hr
theorem gCheck7_eq {u v t : T} {ty : List Typ} {fe : List Ft} {l : List Nd} (hu : IsS eTyp u ty) (hv : IsS eFt v fe) (ht : IsS eNd t l) (hs : Small l) : gCheck7 [.ag [u, v], .ag [t]] = some (iv (check7E ty.length fe.length l)) :=
 (g2_eq (τ := tH) (σ := tFS) (x := (ty, fe)) ⟨u, v, rfl, hu, hv⟩ ⟨t, rfl, ht⟩).trans (if_pos hs)
def fitE (nt nf : Nat) (l : List FSv) (i : Nat) : Int := match l[i]? with
 | some x => if lightB x.nodes then check7E nt nf x.nodes else 1
 | none => 0
def fitsB (nt nf : Nat) (l : List FSv) : Bool := decide (fst (fitE nt nf l) l.length = 0)
theorem fits_true {nt nf : Nat} {l : List FSv} (h : fitsB nt nf l = true) : ∀ x ∈ l, Small x.nodes ∧ Valid nt nf x.nodes := by
 intro x hx
 obtain ⟨i, hi, e⟩ := List.getElem_of_mem hx
 have := fst_zero (of_decide_eq_true h) i hi
 simp only [fitE, List.getElem?_eq_getElem hi, e] at this
 split at this
 ·rename_i hl
  exact ⟨light_small hl, valid_of_check this⟩
 ·cases this
noncomputable def tw16 : Tbl := [(47, gLight), (48, gCheck7)]
theorem ctw16 : Ctx Try.prog G (orc tw16) := (TblOK.cons gLight_ok (.cons gCheck7_ok .nil)).ctx mixed
def R16 (tt tf : T) : Heap := [(0, .cells 29 [.t tt, .t tf])]
def S16 (tt tf tl : T) (n i : Nat) : AState := ⟨[(9, .t (iv (i : Int))), (8, .t (iv (n : Int))), (7, .t tl), (2, .ptr 0 0)], R16 tt tf, 1, 23⟩
theorem fits_call {F : Nat} {M : MCode} (hM : M = M_w09_fits) (k : FnOK Try.prog G F 2 23 M [.tmp 4]) {tt tf tl : T} {ty : List Typ} {fe : List Ft} {l : List FSv} (hT : IsS eTyp tt ty) (hF : IsS eFt tf fe) (ht : IsS eFS tl l) (hl : l.length ≤ 1000000) : CallT Try.prog G F [.ag [tt, tf], tl] (· = bv (fitsB ty.length fe.length l)) := by
 have cph : cellsP (.t (.ag [tt, tf])) = some [.t tt, .t tf] := rfl
 have agh : agOf [.t tt, .t tf] = .t (.ag [tt, tf]) := rfl
 subst hM
 refine k.call rfl ?_
 unfold M_w09_fits
 refine mc_seq_runs ctw16 ?_
 simp -implicitDefEqProofs [cph]
 obtain ⟨n, hle, h0, hn⟩ := fst_cases (fitE ty.length fe.length l) l.length
 refine mc_cut (fun _ : Unit => S16 tt tf tl l.length l.length) (fun _ => fitsB ty.length fe.length l = true) (fun _ => rfl) ?_ ?_
 ·refine mc_seq_runs ctw16 ?_
  simp -implicitDefEqProofs [ht.len]
  refine mc_block ?_
  refine mc_for (S16 tt tf tl l.length) n (fun _ => rfl) ?_ rfl ?_ ?_
  ·refine sub_forget rfl rfl ?_ ?_ <;> simp -implicitDefEqProofs [S16, R16]
  ·intro j hj
   have hjl : j < l.length := by omega
   obtain ⟨x, hx⟩ : ∃ x, l[j]? = some x := ⟨_, List.getElem?_eq_getElem hjl⟩
   have ix := ia_FS ht hx
   have e1 : IntKind.i64.wrap ((j : Int) + 1) = ((j + 1 : Nat) : Int) := wrap_nat (by omega) (by omega)
   have hz := h0 j hj
   simp only [fitE, hx] at hz
   have hli : lightB x.nodes = true := by
    cases h : lightB x.nodes with
    | true => rfl
    | false => rw [h] at hz; simp at hz
   rw [hli] at hz
   simp only [if_true] at hz
   have gl := gLight_eq x.ok
   have gc := gCheck7_eq hT hF x.ok (light_small hli)
   rw [hli] at gl
   rw [hz] at gc
   have cx : cellsP (.t (.ag [x.tree])) = some [.t x.tree] := rfl
   have ag : agOf [.t x.tree] = .t (.ag [x.tree]) := rfl
   refine mc_runs ctw16 ?_
   simp -implicitDefEqProofs [S16, R16, hjl, ix, loadM, storeM, cx, splice, ag, agh, tw16, gl, gc, e1]
   refine sub_R (by omega) (fun q hq => ?_) (by simp -implicitDefEqProofs [under])
   simp only [List.mem_cons, List.not_mem_nil, or_false] at hq
   subst hq
   exact ⟨rfl, by simp, rfl⟩
  ·refine mc_runs ctw16 ?_
   rcases hn with ⟨e, hz⟩ | ⟨hjl, hk, he⟩
   ·have hnl : ¬ n < l.length := by omega
    simp -implicitDefEqProofs [S16, R16, hnl]
    exact Next.mk () (by simp [fitsB, hz]) (sub_forget rfl rfl (by simp -implicitDefEqProofs [e]) (by simp -implicitDefEqProofs))
   ·obtain ⟨x, hx⟩ : ∃ x, l[n]? = some x := ⟨_, List.getElem?_eq_getElem hjl⟩
    have ix := ia_FS ht hx
    have hres : fitsB ty.length fe.length l = false := by unfold fitsB; rw [he]; simp [hk]
    simp only [fitE, hx] at hk
    have gl := gLight_eq x.ok
    have cx : cellsP (.t (.ag [x.tree])) = some [.t x.tree] := rfl
    have ag : agOf [.t x.tree] = .t (.ag [x.tree]) := rfl
    cases hli : lightB x.nodes with
    | false =>
     rw [hli] at gl
     simp -implicitDefEqProofs [S16, R16, hjl, ix, loadM, storeM, cx, splice, ag, agh, tw16, gl, hres]
    | true =>
     rw [hli] at gl hk
     simp only [if_true] at hk
     have gc := gCheck7_eq hT hF x.ok (light_small hli)
     have hk' : (check7E ty.length fe.length x.nodes == 0) = false := by rw [beq_eq_false_iff_ne]; exact hk
     simp -implicitDefEqProofs [S16, R16, hjl, ix, loadM, storeM, cx, splice, ag, agh, tw16, gl, gc, hk, hk', hres]
 ·rintro _ e
  refine mc_runs ctw16 ?_
  simp -implicitDefEqProofs [S16, e]
noncomputable def morB (ty : List Typ) (a b : List Nd) : Bool := open Classical in decide (∃ m, Mor ty a b m)
theorem mapT_eq (ty : List Typ) (a b : List Nd) : ∃ l : List Int, mapT ty a b = .tu [treeS eInt l, bv (morB ty a b)] ∧ l.length ≤ a.length := by
 unfold mapT morB
 by_cases h : ∃ m, Mor ty a b m
 ·rw [dif_pos h]
  exact ⟨h.choose, by simp [h], by rw [h.choose_spec.len]; exact Nat.le_refl _⟩
 ·rw [dif_neg h]
  exact ⟨[], by simp [h, treeS], by simp⟩
def MapOK (h : List Typ × List Ft) (a b : List Nd) : Prop := TyOK h.1 ∧ (Valid h.1.length h.2.length a ∧ Valid h.1.length h.2.length b) ∧ Small a ∧ Small b
noncomputable def gMap : List T → Option T := g3 tH tFS tFS fun h a b => open Classical in if MapOK h a b then some (mapT h.1 a b) else none
theorem gMap_ok {F : Nat} (hc : ∀ {tt tf ta tb : T} {ty : List Typ} {fe : List Ft} {a b : List Nd}, IsS eTyp tt ty → IsS eFt tf fe → IsS eNd ta a → IsS eNd tb b → TyOK ty → Valid ty.length fe.length a → Valid ty.length fe.length b → Small a → Small b → CallT Try.prog G F [.ag [tt, tf], .ag [ta], .ag [tb]] (· = mapT ty a b)) : GOK Try.prog G F gMap := g3_ok fun x y z h a b r hx hy hz hr => by
 obtain ⟨u, v, rfl, hu, hv⟩ := hx
 obtain ⟨ta, rfl, hta⟩ := hy
 obtain ⟨tb, rfl, htb⟩ := hz
 split at hr
 ·rename_i hm
  injection hr with hr
  subst hr
  exact hc hu hv hta htb hm.1 hm.2.1.1 hm.2.1.2 hm.2.2.1 hm.2.2.2
 ·cases hr
theorem gMap_eq {u v ta tb : T} {h : List Typ × List Ft} {a b : List Nd} (hu : IsS eTyp u h.1) (hv : IsS eFt v h.2) (hta : IsS eNd ta a) (htb : IsS eNd tb b) (hm : MapOK h a b) : gMap [.ag [u, v], .ag [ta], .ag [tb]] = some (mapT h.1 a b) :=
 (g3_eq (τ := tH) (σ := tFS) (ρ := tFS) ⟨u, v, rfl, hu, hv⟩ ⟨ta, rfl, hta⟩ ⟨tb, rfl, htb⟩).trans (if_pos hm)
noncomputable def tw16b : Tbl := [(18, gMap), (19, gMap)]
theorem ctw16b : Ctx Try.prog G (orc tw16b) := (TblOK.cons (gMap_ok smap_call) (.cons (gMap_ok rmap_call) .nil)).ctx mixed
noncomputable def gSubs9 : List T → Option T := g3 tH tFS tFS fun h a b => open Classical in if MapOK h a b then some (bv (morB h.1 a b)) else none
theorem gSubs9_eq {u v ta tb : T} {h : List Typ × List Ft} {a b : List Nd} (hu : IsS eTyp u h.1) (hv : IsS eFt v h.2) (hta : IsS eNd ta a) (htb : IsS eNd tb b) (hm : MapOK h a b) : gSubs9 [.ag [u, v], .ag [ta], .ag [tb]] = some (bv (morB h.1 a b)) :=
 (g3_eq (τ := tH) (σ := tFS) (ρ := tFS) ⟨u, v, rfl, hu, hv⟩ ⟨ta, rfl, hta⟩ ⟨tb, rfl, htb⟩).trans (if_pos hm)
theorem ssubs_ok : GOK Try.prog G 21 gSubs9 := g3_ok fun x y z h a b r hx hy hz hr => by
 obtain ⟨u, v, rfl, hu, hv⟩ := hx
 obtain ⟨ta, rfl, hta⟩ := hy
 obtain ⟨tb, rfl, htb⟩ := hz
 split at hr
 ·rename_i hm
  injection hr with hr
  subst hr
  obtain ⟨l, hml, _⟩ := mapT_eq h.1 a b
  have g := gMap_eq hu hv hta htb hm
  rw [hml] at g
  have c1 : cellsP (.t (.ag [u, v])) = some [.t u, .t v] := rfl
  have c2 : cellsP (.t (.ag [ta])) = some [.t ta] := rfl
  have c3 : cellsP (.t (.ag [tb])) = some [.t tb] := rfl
  have a1 : agOf [.t u, .t v] = .t (.ag [u, v]) := rfl
  have a2 : agOf [.t ta] = .t (.ag [ta]) := rfl
  have a3 : agOf [.t tb] = .t (.ag [tb]) := rfl
  refine k_subsume_Subsumes.runs ctw16b rfl ?_
  simp -implicitDefEqProofs [M_subsume_Subsumes, c1, c2, c3, a1, a2, a3, loadM, tw16b, g, extractV]
 ·cases hr
theorem rsubs_ok : GOK Try.prog G 57 gSubs9 := g3_ok fun x y z h a b r hx hy hz hr => by
 obtain ⟨u, v, rfl, hu, hv⟩ := hx
 obtain ⟨ta, rfl, hta⟩ := hy
 obtain ⟨tb, rfl, htb⟩ := hz
 split at hr
 ·rename_i hm
  injection hr with hr
  subst hr
  obtain ⟨l, hml, _⟩ := mapT_eq h.1 a b
  have g := gMap_eq hu hv hta htb hm
  rw [hml] at g
  have c1 : cellsP (.t (.ag [u, v])) = some [.t u, .t v] := rfl
  have c2 : cellsP (.t (.ag [ta])) = some [.t ta] := rfl
  have c3 : cellsP (.t (.ag [tb])) = some [.t tb] := rfl
  have a1 : agOf [.t u, .t v] = .t (.ag [u, v]) := rfl
  have a2 : agOf [.t ta] = .t (.ag [ta]) := rfl
  have a3 : agOf [.t tb] = .t (.ag [tb]) := rfl
  refine k_r09_Subsumes.runs ctw16b rfl ?_
  simp -implicitDefEqProofs [M_r09_Subsumes, c1, c2, c3, a1, a2, a3, loadM, tw16b, g, extractV]
 ·cases hr
noncomputable def gHier : List T → Option T := g1 (tSl eTD) fun d => open Classical in if d.length ≤ 12 → DOK d then some (hT d) else none
theorem gHier_ok : GOK Try.prog G 15 gHier := g1_ok fun a d r ha hr => by
 split at hr
 ·rename_i h; injection hr with hr; subst hr; exact hierarchy_call rfl k_w09_hierarchy ha h
 ·cases hr
theorem gHier_eq {t : T} {d : List TD} (ht : IsS eTD t d) (hd : d.length ≤ 12 → DOK d) : gHier [t] = some (hT d) := (g1_eq (τ := tSl eTD) ht).trans (if_pos hd)
noncomputable def gFits : List T → Option T := g2 tH (tSl eFS) fun h l => if l.length ≤ 1000000 then some (bv (fitsB h.1.length h.2.length l)) else none
theorem gFits_ok : GOK Try.prog G 16 gFits := g2_ok fun a b h l r ha hb hr => by
 obtain ⟨u, v, rfl, hu, hv⟩ := ha
 split at hr
 ·rename_i hl; injection hr with hr; subst hr; exact fits_call rfl k_w09_fits hu hv hb hl
 ·cases hr
theorem gFits_eq {u v tl : T} {h : List Typ × List Ft} {l : List FSv} (hu : IsS eTyp u h.1) (hv : IsS eFt v h.2) (ht : IsS eFS tl l) (hl : l.length ≤ 1000000) : gFits [.ag [u, v], tl] = some (bv (fitsB h.1.length h.2.length l)) :=
 (g2_eq (τ := tH) (σ := tSl eFS) ⟨u, v, rfl, hu, hv⟩ ht).trans (if_pos hl)
def gEx : List T → Option T
 | [] => some (.v (.bool true))
 | _ => none
theorem gEx_ok : GOK Try.prog G 17 gEx := by
 intro args r h
 unfold gEx at h
 split at h
 ·injection h with h; subst h; exact example9
 ·cases h
theorem gEx_eq : gEx [] = some (.v (.bool true)) := rfl
theorem gSI_eq2 {l : List Int} (hl : l.length ≤ 1000000) : gSI [treeS eInt l, treeS eInt l] = some (.v (.bool true)) := by simp [gSI, decI_treeS, hl]
noncomputable def tw16c : Tbl := [(15, gHier), (16, gFits), (17, gEx), (18, gMap), (19, gMap), (20, gSI), (21, gSubs9)]
theorem ctw16c : Ctx Try.prog G (orc tw16c) := (TblOK.cons gHier_ok (.cons gFits_ok (.cons gEx_ok (.cons (gMap_ok smap_call) (.cons (gMap_ok rmap_call) (.cons gSI_ok (.cons ssubs_ok .nil))))))).ctx mixed
theorem maps_law {t ta tb : T} {d : List TD} {a b : List Nd} (ht : IsS eTD t d) (hd : d.length ≤ 12 → DOK d) (hta : IsS eNd ta a) (htb : IsS eNd tb b) : CallT Try.prog G 3 [t, .ag [ta], .ag [tb]] (· = .v (.bool true)) := by
 have gh := gHier_eq ht hd
 obtain ⟨h, hh⟩ : ∃ h, h = hOf d := ⟨_, rfl⟩
 obtain ⟨u, hu'⟩ : ∃ u, u = treeS eTyp h.1 := ⟨_, rfl⟩
 obtain ⟨v, hv'⟩ : ∃ v, v = treeS eFt h.2 := ⟨_, rfl⟩
 have hu : IsS eTyp u h.1 := hu' ▸ IsS.tree _ _
 have hv : IsS eFt v h.2 := hv' ▸ IsS.tree _ _
 have hTd : hT d = .ag [u, v] := by unfold hT; rw [← hh, hu', hv']
 rw [hTd] at gh
 have c1 : cellsP (.t (.ag [u, v])) = some [.t u, .t v] := rfl
 have c2 : cellsP (.t (.ag [ta])) = some [.t ta] := rfl
 have c3 : cellsP (.t (.ag [tb])) = some [.t tb] := rfl
 have a1 : agOf [.t u, .t v] = .t (.ag [u, v]) := rfl
 have a2 : agOf [.t ta] = .t (.ag [ta]) := rfl
 have a3 : agOf [.t tb] = .t (.ag [tb]) := rfl
 have hsl : IsS eFS (.sl 2 [ta, tb]) [⟨ta, a, hta⟩, ⟨tb, b, htb⟩] := .inr rfl
 have gf := gFits_eq hu hv hsl (by simp)
 have bs : bsliceM 25 1 [.slice none 0 0] 2 [(0, .t (.ag [ta])), (1, .t (.ag [tb]))] 3 = some (.row 3 0 2 1, .cells 25 [.t ta, .t tb]) := by
  rcases hta with ⟨rfl, _⟩ | rfl <;> rcases htb with ⟨rfl, _⟩ | rfl <;> rfl
 refine k_w09_SubsumeMaps.call rfl ?_
 unfold M_w09_SubsumeMaps
 refine mc_seq_runs ctw16c ?_
 simp -implicitDefEqProofs [c2, c3]
 refine mc_seq_runs ctw16c ?_
 simp -implicitDefEqProofs [tw16c, gh, storeM, c1, splice]
 cases hf : fitsB h.1.length h.2.length [⟨ta, a, hta⟩, ⟨tb, b, htb⟩] with
 | false =>
  rw [hf] at gf
  refine mc_seq_runs ctw16c ?_
  simp -implicitDefEqProofs [loadM, a1, a2, a3, bs, tw16c, gf, gEx_eq]
 | true =>
  rw [hf] at gf
  have hall := fits_true hf
  have hA := hall ⟨ta, a, hta⟩ (by simp)
  have hB := hall ⟨tb, b, htb⟩ (by simp)
  have hm : MapOK h a b := ⟨by rw [hh]; exact hOf_ok hd, ⟨hA.2, hB.2⟩, hA.1, hB.1⟩
  have gm := gMap_eq hu hv hta htb hm
  obtain ⟨l, hml, hll⟩ := mapT_eq h.1 a b
  rw [hml] at gm
  have gs := gSI_eq2 (l := l) (by have := hA.1.len; simp only at this; omega)
  have gsub := gSubs9_eq hu hv hta htb hm
  refine mc_seq_runs ctw16c ?_
  simp -implicitDefEqProofs [loadM, a1, a2, a3, bs, tw16c, gf]
  refine mc_seq_runs ctw16c ?_
  simp -implicitDefEqProofs [loadM, a1, a2, a3, tw16c, gm, extractV]
  refine mc_seq_runs ctw16c ?_
  simp -implicitDefEqProofs [loadM, a1, a2, a3, tw16c, gm, extractV]
  refine mc_runs ctw16c ?_
  simp -implicitDefEqProofs (maxDischargeDepth := 8) [loadM, a1, a2, a3, tw16c, gs, gsub, gEx_eq]
end Go.Proofs.Ytbiadmfmjnoecaa
