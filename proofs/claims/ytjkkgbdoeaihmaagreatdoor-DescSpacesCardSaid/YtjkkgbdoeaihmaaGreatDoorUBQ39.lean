/-
 Auxiliary facts. No statement of the program stands here.
-/
import Derived.Test.YtjkkgbdoeaihmaaGreatDoorUBQ38
import Derived.Test.YtjkkgbdoeaihmaaGreatDoorUBQ27
import Derived.Test.YtjkkgbdoeaihmaaGreatDoorUBQ37
namespace Go.Proofs.YtjkkgbdoeaihmaaGreatDoor
set_option linter.unusedSimpArgs false
set_option linter.unusedVariables false
open Go Go.Abs
variable {q : Gl}
def lZ (op : Int) (lv : Nat) : Nat := if op = 4 then lv else lv + 1
theorem below_call {c : List T} {d : Ds} (hd : Abs.IsD d c) {lv : Nat} (hlv : lv <= 1000000) : CallT Tryz.prog (G q) 46 [.ag c, iv (lv : Int)] (· = iv (lZ d.op lv : Nat)) := by
 cases d with
 | mk op name path kids =>
  obtain ⟨tp, tk, rfl, hp, hk⟩ := hd.parts
  obtain ⟨lv1, hlv1⟩ : ∃ lv1, lv1 = lv + 1 := ⟨_, rfl⟩
  have el : IntKind.i64.wrap ((lv : Int) + 1) = (lv1 : Int) := wrap_nat (by omega) (by omega)
  unfold lZ Ds.op
  rw [<- hlv1]
  refine k_desc_below.call rfl ?_
  by_cases h4 : op = 4
  ·have e4 : (op == 4) = true := by simpa using h4
   rw [if_pos h4]
   refine mc_runs ctx00 ?_
   simp -implicitDefEqProofs [M_desc_below, box_d, dl0, e4]
  ·have e4 : (op == 4) = false := by simpa using h4
   rw [if_neg h4]
   refine mc_runs ctx00 ?_
   simp -implicitDefEqProofs [M_desc_below, box_d, dl0, e4, el]
noncomputable def gBel (ts : List T) : Option T := g2 tD tInt (fun d lv => if 0 <= lv /\ lv <= 1000000 then some (iv (lZ d.op lv.toNat : Nat)) else none) ts
theorem hBel : GOK Tryz.prog (G q) 46 gBel := g2_ok fun a b x y r ha hb hr => by
 split at hr
 ·rename_i hc
  injection hr with hr; subst hr
  obtain ⟨c, rfl, hd⟩ := ha
  cases hb
  obtain ⟨n, rfl⟩ := Int.eq_ofNat_of_zero_le hc.1
  exact below_call hd (by omega)
 ·cases hr
theorem gBel_eq {c : List T} {d : Ds} (h : Abs.IsD d c) {lv : Nat} (hl : lv <= 1000000) : gBel [.ag c, iv (lv : Int)] = some (iv (lZ d.op lv : Nat)) := by
 show g2 _ _ _ _ = _
 rw [g2_eq (τ := tD) (σ := tInt) (x := d) (y := (lv : Int)) ⟨c, rfl, h⟩ rfl, if_pos ⟨by omega, by omega⟩, Int.toNat_natCast]
section
variable (R : Heap) (a b c d op : T) (name : ByteArray) (tp tk : T) (k : Int) (x0 x1 x2 x3 : PV)
theorem sk1 : storeM 4 ((1, .cells 25 [x0, x1, x2, x3]) :: R) (.ptr 1 0) (.t (.ag [a, b, c, d])) = some ((1, .cells 25 [.t a, .t b, .t c, .t d]) :: R) := rfl
theorem dk1 : loadM true 4 ((1, .cells 25 [.t a, .t b, .t c, .t d]) :: R) (.ptr 1 0) = some (.t (.ag [a, b, c, d])) := rfl
theorem dm4 (X : Row) : loadM true 4 ((1, X) :: (0, dRow k name tp tk) :: R) (.ptr 0 0) = some (.t (.ag [iv k, sv name, tp, tk])) := rfl
end
theorem check_call {m : Nat} (hrec : GOK Tryz.prog (G q) 30 (gCh m)) {c : List T} {d : Ds} (hd : Abs.IsD d c) (hs : Sized d) (hdep : d.depth <= m + 1) {lv : Nat} (hlv : lv <= 65) :
  CallT Tryz.prog (G q) 30 [.ag c, iv (lv : Int)] (· = iv (checkE d lv)) := by
 cases d with
 | mk op name path kids =>
 have hgf := gForm_eq hd hs
 have hgb := gBel_eq hd (lv := lv) (by omega)
 obtain ⟨s1, s2, s3, s4, s5⟩ := hs.parts
 obtain ⟨tp, tk, rfl, hp, hk⟩ := hd.parts
 rw [Ds.depth] at hdep
 have C := (TblOK.cons hrec (.cons hForm (.cons hBel .nil))).ctx mixed
 have hlp : lenslM (.t tp) = some (.t (iv (path.length : Int))) := hp.len
 have hlk : lenslM (.t tk) = some (.t (iv (kids.length : Int))) := hk.len
 obtain ⟨W, hW⟩ : ∃ W, W = checkE (.mk op name path kids) lv := ⟨_, rfl⟩
 rw [<- hW]
 rw [checkE] at hW
 obtain ⟨lv2, hlv2⟩ : ∃ lv2, lv2 = lZ op lv := ⟨_, rfl⟩
 have hl2 : (if op = 4 then lv else lv + 1) = lv2 := hlv2.symm
 rw [hl2] at hW
 have hgb : gBel [.ag [iv op, sv name, tp, tk], iv (lv : Int)] = some (iv (lv2 : Int)) := by rw [hlv2]; exact hgb
 generalize formE op name path kids = F at hgf hW
 refine k_desc_check.call rfl ?_
 unfold M_desc_check
 refine mc_seq_runs C ?_
 simp -implicitDefEqProofs [box_d]
 refine mc_cut (α := Unit) (fun _ => ⟨[(2, .ptr 0 0), (1, .t (iv (lv : Int)))], [(0, dRow op name tp tk)], 1, 44⟩) (fun _ => ¬ (64 < lv \/ 64 < path.length \/ 256 < kids.length)) (fun _ => rfl) ?_ ?_
 ·by_cases b1 : 64 < lv
  ·have b1' : (64 : Int) < (lv : Int) := by omega
   rw [if_pos (.inl b1)] at hW
   rw [hW]
   refine mc_runs C ?_
   simp -implicitDefEqProofs [b1, b1']
  have b1' : ¬ (64 : Int) < (lv : Int) := by omega
  by_cases b2 : 64 < path.length
  ·have b2' : (64 : Int) < (path.length : Int) := by omega
   rw [if_pos (.inr (.inl b2))] at hW
   rw [hW]
   refine mc_runs C ?_
   simp -implicitDefEqProofs [b1, b1', dl2, hlp, b2, b2']
  have b2' : ¬ (64 : Int) < (path.length : Int) := by omega
  by_cases b3 : 256 < kids.length
  ·have b3' : (256 : Int) < (kids.length : Int) := by omega
   rw [if_pos (.inr (.inr b3))] at hW
   rw [hW]
   refine mc_runs C ?_
   simp -implicitDefEqProofs [b1, b1', dl2, hlp, b2, b2', dl3, hlk, b3, b3']
  have b3' : ¬ (256 : Int) < (kids.length : Int) := by omega
  refine mc_runs C ?_
  simp -implicitDefEqProofs [b1, b1', dl2, hlp, b2, b2', dl3, hlk, b3, b3']
  exact Abs.Next.mk () trivial (sub_env (by simp -implicitDefEqProofs))
 ·rintro ⟨⟩ hn
  rw [if_neg hn] at hW
  have hlv64 : lv <= 64 := by omega
  by_cases hF : F = 0
  ·rw [if_neg (fun h => h hF)] at hW
   have hF' : (F != 0) = false := by simpa using hF
   refine mc_seq_runs C ?_
   simp -implicitDefEqProofs [dl4, hgf, hF']
   have hlv65 : lv2 <= 65 := by rw [hlv2]; unfold lZ; split <;> omega
   refine mc_cut (α := Unit) (fun _ => ⟨[], [], 1, 44⟩) (fun _ => W = 0) (fun _ => rfl) ?_ ?_
   ·refine mc_seq_runs C ?_
    simp -implicitDefEqProofs [dl3, hlk]
    refine mc_block ?_
    refine mc_while (α := Nat) (fun j => ⟨[(31, .t (iv (j : Int))), (30, .t (iv (kids.length : Int))), (29, .t tk), (1, .t (iv (lv : Int))), (2, .ptr 0 0)], [(0, dRow op name tp tk)], 1, 44⟩) (fun j => kids.length - j) (fun j => j <= kids.length /\ checkL (kids.drop j) lv2 = W) 0 (fun _ => rfl) ⟨by omega, by rw [List.drop_zero]; exact hW.symm⟩ (sub_env (by simp -implicitDefEqProofs)) rfl ?_
    rintro j ⟨hj, heq⟩
    by_cases hlt : j < kids.length
    ·obtain ⟨x, hx⟩ : ∃ x, kids[j]? = some x := ⟨_, List.getElem?_eq_getElem hlt⟩
     obtain ⟨p, ci, h1, h2, h3⟩ := kid_at hk hx
     have hlt' : (j : Int) < (kids.length : Int) := by omega
     have hmem := List.mem_of_getElem? hx
     have hg := gCh_eq (m := m) h3 (s5 x hmem) (by have := depth_kid hmem; omega) hlv65
     rw [List.drop_eq_getElem_cons hlt] at heq
     have hxe : kids[j] = x := by rw [List.getElem?_eq_getElem hlt] at hx; injection hx
     rw [hxe, checkL] at heq
     obtain ⟨xo, xn, xp, xk, rfl⟩ : ∃ xo xn xp xk, x = .mk xo xn xp xk := by cases x; exact ⟨_, _, _, _, rfl⟩
     obtain ⟨xtp, xtk, rfl, _, _⟩ := h3.parts
     generalize checkE (.mk xo xn xp xk) lv2 = E at hg heq
     by_cases b : E = 0
     ·rw [if_neg (fun h => h b)] at heq
      rw [b] at hg
      obtain ⟨j1, hj1⟩ : ∃ j1, j1 = j + 1 := ⟨_, rfl⟩
      have ej : IntKind.i64.wrap ((j : Int) + 1) = (j1 : Int) := wrap_nat (by omega) (by omega)
      refine mc_runs C ?_
      simp -implicitDefEqProofs [dl3, hlk, hlt, hlt', h1, h2, hg, ej, sk1, dk1, dm4, hgb]
      refine Abs.Next.mk j1 ⟨⟨by omega, by rw [hj1]; exact heq⟩, by omega⟩ (sub_frzR [] (by omega) (by simp -implicitDefEqProofs [frzP_tree, frzP_ptr, under]) ?_)
      intro y hy
      simp only [List.mem_singleton] at hy
      subst hy
      exact ⟨by simp, by show 0 < 1; omega, rfl, _, rfl, rfl⟩
     ·rw [if_pos b] at heq
      have b' : (E != 0) = true := by simpa using b
      rw [<- heq]
      refine mc_runs C ?_
      simp -implicitDefEqProofs [dl3, hlk, hlt, hlt', h1, h2, hg, sk1, dk1, dm4, hgb, b']
    ·have hlt' : ¬ (j : Int) < (kids.length : Int) := by omega
     rw [List.drop_eq_nil_of_le (by omega), checkL] at heq
     refine mc_runs C ?_
     simp -implicitDefEqProofs [dl3, hlk, hlt, hlt']
     exact Abs.Next.mk () heq.symm (sub_forget rfl rfl (by simp -implicitDefEqProofs) (by simp -implicitDefEqProofs))
   ·rintro ⟨⟩ hW0
    rw [hW0]
    refine mc_runs C ?_
    simp -implicitDefEqProofs
  ·rw [if_pos hF] at hW
   have hF' : (F != 0) = true := by simpa using hF
   rw [hW]
   refine mc_seq_runs C ?_
   simp -implicitDefEqProofs [dl4, hgf, hF']
theorem hDCh : ∀ m, GOK Tryz.prog (G q) 30 (gCh m)
 | 0 => g2_ok fun a b x y r ha hb hr => by
  split at hr
  ·rename_i hc
   cases x with
   | mk _ _ _ _ => have := hc.2.1; rw [Ds.depth] at this; omega
  ·cases hr
 | m + 1 => g2_ok fun a b x y r ha hb hr => by
  split at hr
  ·rename_i hc
   obtain ⟨h1, h2, h3, h4⟩ := hc
   injection hr with hr; subst hr
   obtain ⟨c, rfl, hcx⟩ := ha
   cases hb
   obtain ⟨n, rfl⟩ := Int.eq_ofNat_of_zero_le h3
   exact check_call (hDCh m) hcx h1 h2 (by omega)
  ·cases hr
theorem hDCheck : GOK Tryz.prog (G q) 14 gCheck := g1_ok fun a x r ha hr => by
 split at hr
 ·rename_i hc
  injection hr with hr; subst hr
  obtain ⟨c, rfl, hd⟩ := ha
  have hg := gCh_eq (m := x.depth) hd hc (Nat.le_refl _) (lv := 1) (by omega)
  cases x with
  | mk op name path kids =>
   obtain ⟨tp, tk, rfl, hp, hk⟩ := hd.parts
   have C := (TblOK.cons (hDCh (q := q) (Ds.mk op name path kids).depth) .nil).ctx mixed
   generalize checkE (.mk op name path kids) 1 = W at hg
   have hg : gCh (Ds.mk op name path kids).depth [.ag [iv op, sv name, tp, tk], .v (.int .i64 1)] = some (iv W) := hg
   refine k_desc_Check.call rfl ?_
   refine mc_runs C ?_
   simp -implicitDefEqProofs [M_desc_Check, box_d, dl4, hg]
 ·cases hr
theorem print_call {c : List T} {d : Ds} (hd : Abs.IsD d c) (hs : Sized d) (hw : checkE d 1 = 0 -> Wr d) :
  CallT Tryz.prog (G q) 22 [.ag c] (· = priT d) := by
 cases d with
 | mk op name path kids =>
 have hg := gCheck_eq hd hs
 have hd0 := hd
 obtain ⟨tp, tk, rfl, hp, hk⟩ := hd.parts
 have C0 : Ctx Tryz.prog (G q) _ := (TblOK.cons (hDCheck (q := q)) .nil).ctx mixed
 refine k_desc_Print.call rfl ?_
 unfold M_desc_Print
 obtain ⟨R, hR⟩ : ∃ R, R = priT (.mk op name path kids) := ⟨_, rfl⟩
 rw [<- hR]
 unfold priT at hR
 generalize hE : checkE (.mk op name path kids) 1 = E at hg hR hw
 by_cases he : E = 0
 ·subst he
  have hwr := hw rfl
  have hwl := hwr.parts.2.2.2.2.2.2.2.2.1
  have hwne := wrD_ne hwr
  rw [if_neg (by omega)] at hR
  obtain ⟨H1, hH1⟩ : ∃ H1, H1 = ([(1, bldR pZ 0 []), (0, dRow op name tp tk)] : Heap) := ⟨_, rfl⟩
  have l1 : Abs.look H1 1 = some (bldR pZ 0 []) := by rw [hH1]; rfl
  have c37 := (write_all (q := q) hwr).at_ hwr hd0 (H := H1) (NX := 2) (b := 1) (g := 0) (p := pZ) (l := []) (by simpa using hwl) l1 (.inl rfl) (.inl rfl) (by omega) (by omega) (by omega)
  rw [List.nil_append] at c37
  generalize wrD (.mk op name path kids) = W at hR hwl hwne c37
  obtain ⟨H2, hH2⟩ : ∃ H2, H2 = wsH H1 1 0 2 [] W := ⟨_, rfl⟩
  rw [<- hH2] at c37
  have l2 : Abs.look H2 1 = some (bldR (.ptr 1 0) 2 W) := by rw [hH2]; exact ws_at0 l1 (by omega) (.inl rfl)
  have r2 : RowAt eB tyU H2 2 W := by rw [hH2]; exact ws_row
  have l0 : Abs.look H2 0 = some (dRow op name tp tk) := by rw [hH2, ws_other (by omega) (.inl rfl) (by omega), hH1]; rfl
  have c38 := len_call (q := q) (nx := 3) l2 r2
  have c39 := str_call (q := q) (nx := 3) l2 r2 hwne (by omega)
  obtain ⟨t37, e37, hok37⟩ : ∃ t, t [.ptr 1 0, .t (.ag [iv op, sv name, tp, tk])] H1 2 = some (.t (.tu []), H2, 3) /\ HOK Tryz.prog (G q) 37 t := ⟨_, hOne_eq _ _ _ _, hOne_ok c37 (by rw [hH2]; exact ws_fresh (by omega))⟩
  obtain ⟨t38, e38, hok38⟩ : ∃ t, t [.ptr 1 0] H2 3 = some (.t (iv (W.length : Int)), H2, 3) /\ HOK Tryz.prog (G q) 38 t := ⟨_, hOne_eq _ _ _ _, hOne_ok c38 fun h => h⟩
  obtain ⟨t39, e39, hok39⟩ : ∃ t, t [.ptr 1 0] H2 3 = some (.t (sv (bs W)), rem H2 2, 3) /\ HOK Tryz.prog (G q) 39 t := ⟨_, hOne_eq _ _ _ _, hOne_ok c39 fun h k x hk => by
   rw [look_rem] at hk
   split at hk
   ·cases hk
   ·exact h k x hk⟩
  refine mc_seq_runs C0 ?_
  simp -implicitDefEqProofs [box_d]
  refine mc_seq_runs C0 ?_
  simp -implicitDefEqProofs [dl4, hg]
  refine mc_seq_runs C0 ?_
  simp -implicitDefEqProofs
  refine MC.sub (s' := ⟨[(5, .ptr 1 0), (3, .t (iv 0)), (2, .t (sv ⟨#[]⟩)), (1, .ptr 0 0)], H1, 2, 16⟩) (by rw [hH1]; exact sub_env (by simp -implicitDefEqProofs)) rfl ?_
  have g1 : loadM true 4 H1 (.ptr 0 0) = some (.t (.ag [iv op, sv name, tp, tk])) := by rw [hH1]; rfl
  refine mc_seq_runs (TblOK.nil.ctxH (HTblOK.cons hok37 .nil) mixed) ?_
  simp -implicitDefEqProofs [g1, e37]
  by_cases hl : 65536 < W.length
  ·rw [if_pos hl] at hR
   have hl' : (65536 : Int) < (W.length : Int) := by omega
   rw [hR]
   refine mc_runs (TblOK.nil.ctxH (HTblOK.cons hok38 .nil) mixed) ?_
   simp -implicitDefEqProofs [e38, hl, hl']
  ·rw [if_neg hl] at hR
   have hl' : ¬ (65536 : Int) < (W.length : Int) := by omega
   rw [hR]
   refine mc_seq_runs (TblOK.nil.ctxH (HTblOK.cons hok38 .nil) mixed) ?_
   simp -implicitDefEqProofs [e38, hl, hl']
   refine mc_runs (TblOK.nil.ctxH (HTblOK.cons hok39 .nil) mixed) ?_
   simp -implicitDefEqProofs [e39]
 ·rw [if_pos he] at hR
  have hb : (E != 0) = true := by simpa using he
  rw [hR]
  refine mc_runs C0 ?_
  simp -implicitDefEqProofs [box_d, dl4, hg, hb]
noncomputable def gPrint (ts : List T) : Option T := g1 tD (fun d => open Classical in if Sized d /\ (checkE d 1 = 0 -> Wr d) then some (priT d) else none) ts
theorem gPrint_eq {c : List T} {d : Ds} (h : Abs.IsD d c) (hs : Sized d) (hw : checkE d 1 = 0 -> Wr d) : gPrint [.ag c] = some (priT d) := by
 show g1 _ _ _ = _
 rw [g1_eq (τ := tD) (x := d) ⟨c, rfl, h⟩, if_pos ⟨hs, hw⟩]
theorem hPrint : GOK Tryz.prog (G q) 22 gPrint := g1_ok fun a x r ha hr => by
 split at hr
 ·rename_i hc
  injection hr with hr; subst hr
  obtain ⟨c, rfl, hd⟩ := ha
  exact print_call hd hc.1 hc.2
 ·cases hr
end Go.Proofs.YtjkkgbdoeaihmaaGreatDoor
