/-
 Auxiliary facts. No statement of the program stands here.
-/
import Derived.Test.YtjkkgbdoeaihmaaGreatDoorUD3Q37
import Derived.Test.YtjkkgbdoeaihmaaGreatDoorUD3Q27
import Derived.Test.YtjkkgbdoeaihmaaGreatDoorUD3Q36
namespace Go.Proofs.YtjkkgbdoeaihmaaGreatDoor
set_option linter.unusedSimpArgs false
set_option linter.unusedVariables false
open Go Go.Abs
variable {q : Gl}
def C0q (op : Int) (lv : Nat) : Nat := if op = 4 then lv else lv + 1
theorem D3d {c : List T} {d : Ds} (hd : Abs.IsD d c) {lv : Nat} (hlv : lv <= 1000000) : A1k Tryz.prog (G q) 46 [.ag c, iv (lv : Int)] (· = iv (C0q d.op lv : Nat)) := by
 cases d with
 | mk op name path kids =>
  obtain ⟨tp, tk, rfl, hp, hk⟩ := hd.parts
  obtain ⟨lv1, hlv1⟩ : ∃ lv1, lv1 = lv + 1 := ⟨_, rfl⟩
  have el : IntKind.i64.wrap ((lv : Int) + 1) = (lv1 : Int) := A1a (by omega) (by omega)
  unfold C0q Ds.op
  rw [<- hlv1]
  refine C3n.call rfl ?_
  by_cases h4 : op = 4
  ·have e4 : (op == 4) = true := by simpa using h4
   rw [if_pos h4]
   refine A0c A2e ?_
   simp -implicitDefEqProofs [A9p, B7p, dl0, e4]
  ·have e4 : (op == 4) = false := by simpa using h4
   rw [if_neg h4]
   refine A0c A2e ?_
   simp -implicitDefEqProofs [A9p, B7p, dl0, e4, el]
noncomputable def gBel (ts : List T) : Option T := g2 tD tInt (fun d lv => if 0 <= lv /\ lv <= 1000000 then some (iv (C0q d.op lv.toNat : Nat)) else none) ts
theorem hBel : GOK Tryz.prog (G q) 46 gBel := A8i fun a b x y r ha hb hr => by
 split at hr
 ·rename_i hc
  injection hr with hr; subst hr
  obtain ⟨c, rfl, hd⟩ := ha
  cases hb
  obtain ⟨n, rfl⟩ := Int.eq_ofNat_of_zero_le hc.1
  exact D3d hd (by omega)
 ·cases hr
theorem E4y {c : List T} {d : Ds} (h : Abs.IsD d c) {lv : Nat} (hl : lv <= 1000000) : gBel [.ag c, iv (lv : Int)] = some (iv (C0q d.op lv : Nat)) := by
 show g2 _ _ _ _ = _
 rw [A8v (τ := tD) (σ := tInt) (x := d) (y := (lv : Int)) ⟨c, rfl, h⟩ rfl, if_pos ⟨by omega, by omega⟩, Int.toNat_natCast]
section
variable (R : Heap) (a b c d op : T) (name : ByteArray) (tp tk : T) (k : Int) (x0 x1 x2 x3 : PV)
theorem sk1 : A1b 4 ((1, .cells 25 [x0, x1, x2, x3]) :: R) (.ptr 1 0) (.t (.ag [a, b, c, d])) = some ((1, .cells 25 [.t a, .t b, .t c, .t d]) :: R) := rfl
theorem dk1 : A0s true 4 ((1, .cells 25 [.t a, .t b, .t c, .t d]) :: R) (.ptr 1 0) = some (.t (.ag [a, b, c, d])) := rfl
theorem dm4 (X : Row) : A0s true 4 ((1, X) :: (0, dRow k name tp tk) :: R) (.ptr 0 0) = some (.t (.ag [iv k, sv name, tp, tk])) := rfl
end
theorem D3e {m : Nat} (hrec : GOK Tryz.prog (G q) 30 (gCh m)) {c : List T} {d : Ds} (hd : Abs.IsD d c) (hs : A8b d) (hdep : d.depth <= m + 1) {lv : Nat} (hlv : lv <= 65) :
  A1k Tryz.prog (G q) 30 [.ag c, iv (lv : Int)] (· = iv (A1g d lv)) := by
 cases d with
 | mk op name path kids =>
 have hgf := E1q hd hs
 have hgb := E4y hd (lv := lv) (by omega)
 obtain ⟨s1, s2, s3, s4, s5⟩ := hs.parts
 obtain ⟨tp, tk, rfl, hp, hk⟩ := hd.parts
 rw [Ds.depth] at hdep
 have C := (A0z.cons hrec (.cons hForm (.cons hBel .nil))).ctx mixed
 have hlp : A2f (.t tp) = some (.t (iv (path.length : Int))) := hp.len
 have hlk : A2f (.t tk) = some (.t (iv (kids.length : Int))) := hk.len
 obtain ⟨W, hW⟩ : ∃ W, W = A1g (.mk op name path kids) lv := ⟨_, rfl⟩
 rw [<- hW]
 rw [A1g] at hW
 obtain ⟨lv2, hlv2⟩ : ∃ lv2, lv2 = C0q op lv := ⟨_, rfl⟩
 have hl2 : (if op = 4 then lv else lv + 1) = lv2 := hlv2.symm
 rw [hl2] at hW
 have hgb : gBel [.ag [iv op, sv name, tp, tk], iv (lv : Int)] = some (iv (lv2 : Int)) := by rw [hlv2]; exact hgb
 generalize A9a op name path kids = F at hgf hW
 refine C3m.call rfl ?_
 unfold B4m
 refine A0a C ?_
 simp -implicitDefEqProofs [B7p]
 refine A2g (α := Unit) (fun _ => ⟨[(2, .ptr 0 0), (1, .t (iv (lv : Int)))], [(0, dRow op name tp tk)], 1, 44⟩) (fun _ => ¬ (64 < lv \/ 64 < path.length \/ 256 < kids.length)) (fun _ => rfl) ?_ ?_
 ·by_cases b1 : 64 < lv
  ·have b1' : (64 : Int) < (lv : Int) := by omega
   rw [if_pos (.inl b1)] at hW
   rw [hW]
   refine A0c C ?_
   simp -implicitDefEqProofs [b1, b1']
  have b1' : ¬ (64 : Int) < (lv : Int) := by omega
  by_cases b2 : 64 < path.length
  ·have b2' : (64 : Int) < (path.length : Int) := by omega
   rw [if_pos (.inr (.inl b2))] at hW
   rw [hW]
   refine A0c C ?_
   simp -implicitDefEqProofs [b1, b1', dl2, hlp, b2, b2']
  have b2' : ¬ (64 : Int) < (path.length : Int) := by omega
  by_cases b3 : 256 < kids.length
  ·have b3' : (256 : Int) < (kids.length : Int) := by omega
   rw [if_pos (.inr (.inr b3))] at hW
   rw [hW]
   refine A0c C ?_
   simp -implicitDefEqProofs [b1, b1', dl2, hlp, b2, b2', dl3, hlk, b3, b3']
  have b3' : ¬ (256 : Int) < (kids.length : Int) := by omega
  refine A0c C ?_
  simp -implicitDefEqProofs [b1, b1', dl2, hlp, b2, b2', dl3, hlk, b3, b3']
  exact Abs.Next.mk () trivial (A1i (by simp -implicitDefEqProofs))
 ·rintro ⟨⟩ hn
  rw [if_neg hn] at hW
  have hlv64 : lv <= 64 := by omega
  by_cases hF : F = 0
  ·rw [if_neg (fun h => h hF)] at hW
   have hF' : (F != 0) = false := by simpa using hF
   refine A0a C ?_
   simp -implicitDefEqProofs [dl4, hgf, hF']
   have hlv65 : lv2 <= 65 := by rw [hlv2]; unfold C0q; split <;> omega
   refine A2g (α := Unit) (fun _ => ⟨[], [], 1, 44⟩) (fun _ => W = 0) (fun _ => rfl) ?_ ?_
   ·refine A0a C ?_
    simp -implicitDefEqProofs [dl3, hlk]
    refine A0w ?_
    refine A1l (α := Nat) (fun j => ⟨[(31, .t (iv (j : Int))), (30, .t (iv (kids.length : Int))), (29, .t tk), (1, .t (iv (lv : Int))), (2, .ptr 0 0)], [(0, dRow op name tp tk)], 1, 44⟩) (fun j => kids.length - j) (fun j => j <= kids.length /\ A5j (kids.drop j) lv2 = W) 0 (fun _ => rfl) ⟨by omega, by rw [List.drop_zero]; exact hW.symm⟩ (A1i (by simp -implicitDefEqProofs)) rfl ?_
    rintro j ⟨hj, heq⟩
    by_cases hlt : j < kids.length
    ·obtain ⟨x, hx⟩ : ∃ x, kids[j]? = some x := ⟨_, List.getElem?_eq_getElem hlt⟩
     obtain ⟨p, ci, h1, h2, h3⟩ := C0i hk hx
     have hlt' : (j : Int) < (kids.length : Int) := by omega
     have hmem := List.mem_of_getElem? hx
     have hg := E2g (m := m) h3 (s5 x hmem) (by have := B6y hmem; omega) hlv65
     rw [List.drop_eq_getElem_cons hlt] at heq
     have hxe : kids[j] = x := by rw [List.getElem?_eq_getElem hlt] at hx; injection hx
     rw [hxe, A5j] at heq
     obtain ⟨xo, xn, xp, xk, rfl⟩ : ∃ xo xn xp xk, x = .mk xo xn xp xk := by cases x; exact ⟨_, _, _, _, rfl⟩
     obtain ⟨xtp, xtk, rfl, _, _⟩ := h3.parts
     generalize A1g (.mk xo xn xp xk) lv2 = E at hg heq
     by_cases b : E = 0
     ·rw [if_neg (fun h => h b)] at heq
      rw [b] at hg
      obtain ⟨j1, hj1⟩ : ∃ j1, j1 = j + 1 := ⟨_, rfl⟩
      have ej : IntKind.i64.wrap ((j : Int) + 1) = (j1 : Int) := A1a (by omega) (by omega)
      refine A0c C ?_
      simp -implicitDefEqProofs [dl3, hlk, hlt, hlt', h1, h2, hg, ej, sk1, dk1, dm4, hgb]
      refine Abs.Next.mk j1 ⟨⟨by omega, by rw [hj1]; exact heq⟩, by omega⟩ (B5u [] (by omega) (by simp -implicitDefEqProofs [A6z, B5v, under]) ?_)
      intro y hy
      simp only [List.mem_singleton] at hy
      subst hy
      exact ⟨by simp, by show 0 < 1; omega, rfl, _, rfl, rfl⟩
     ·rw [if_pos b] at heq
      have b' : (E != 0) = true := by simpa using b
      rw [<- heq]
      refine A0c C ?_
      simp -implicitDefEqProofs [dl3, hlk, hlt, hlt', h1, h2, hg, sk1, dk1, dm4, hgb, b']
    ·have hlt' : ¬ (j : Int) < (kids.length : Int) := by omega
     rw [List.drop_eq_nil_of_le (by omega), A5j] at heq
     refine A0c C ?_
     simp -implicitDefEqProofs [dl3, hlk, hlt, hlt']
     exact Abs.Next.mk () heq.symm (A0e rfl rfl (by simp -implicitDefEqProofs) (by simp -implicitDefEqProofs))
   ·rintro ⟨⟩ hW0
    rw [hW0]
    refine A0c C ?_
    simp -implicitDefEqProofs
  ·rw [if_pos hF] at hW
   have hF' : (F != 0) = true := by simpa using hF
   rw [hW]
   refine A0a C ?_
   simp -implicitDefEqProofs [dl4, hgf, hF']
theorem hDCh : ∀ m, GOK Tryz.prog (G q) 30 (gCh m)
 | 0 => A8i fun a b x y r ha hb hr => by
  split at hr
  ·rename_i hc
   cases x with
   | mk _ _ _ _ => have := hc.2.1; rw [Ds.depth] at this; omega
  ·cases hr
 | m + 1 => A8i fun a b x y r ha hb hr => by
  split at hr
  ·rename_i hc
   obtain ⟨h1, h2, h3, h4⟩ := hc
   injection hr with hr; subst hr
   obtain ⟨c, rfl, hcx⟩ := ha
   cases hb
   obtain ⟨n, rfl⟩ := Int.eq_ofNat_of_zero_le h3
   exact D3e (hDCh m) hcx h1 h2 (by omega)
  ·cases hr
theorem D8m : GOK Tryz.prog (G q) 14 D0c := B2o fun a x r ha hr => by
 split at hr
 ·rename_i hc
  injection hr with hr; subst hr
  obtain ⟨c, rfl, hd⟩ := ha
  have hg := E2g (m := x.depth) hd hc (Nat.le_refl _) (lv := 1) (by omega)
  cases x with
  | mk op name path kids =>
   obtain ⟨tp, tk, rfl, hp, hk⟩ := hd.parts
   have C := (A0z.cons (hDCh (q := q) (Ds.mk op name path kids).depth) .nil).ctx mixed
   generalize A1g (.mk op name path kids) 1 = W at hg
   have hg : gCh (Ds.mk op name path kids).depth [.ag [iv op, sv name, tp, tk], .v (.int .i64 1)] = some (iv W) := hg
   refine C3l.call rfl ?_
   refine A0c C ?_
   simp -implicitDefEqProofs [B4l, B7p, dl4, hg]
 ·cases hr
theorem D3f {c : List T} {d : Ds} (hd : Abs.IsD d c) (hs : A8b d) (hw : A1g d 1 = 0 -> Wr d) :
  A1k Tryz.prog (G q) 22 [.ag c] (· = priT d) := by
 cases d with
 | mk op name path kids =>
 have hg := C5i hd hs
 have hd0 := hd
 obtain ⟨tp, tk, rfl, hp, hk⟩ := hd.parts
 have C0 : Ctx Tryz.prog (G q) _ := (A0z.cons (D8m (q := q)) .nil).ctx mixed
 refine C3p.call rfl ?_
 unfold B4o
 obtain ⟨R, hR⟩ : ∃ R, R = priT (.mk op name path kids) := ⟨_, rfl⟩
 rw [<- hR]
 unfold priT at hR
 generalize hE : A1g (.mk op name path kids) 1 = E at hg hR hw
 by_cases he : E = 0
 ·subst he
  have hwr := hw rfl
  have hwl := hwr.parts.2.2.2.2.2.2.2.2.1
  have hwne := D8h hwr
  rw [if_neg (by omega)] at hR
  obtain ⟨H1, hH1⟩ : ∃ H1, H1 = ([(1, bldR pNil 0 []), (0, dRow op name tp tk)] : Heap) := ⟨_, rfl⟩
  have l1 : Abs.look H1 1 = some (bldR pNil 0 []) := by rw [hH1]; rfl
  have c37 := (D8k (q := q) hwr).at_ hwr hd0 (H := H1) (NX := 2) (b := 1) (g := 0) (p := pNil) (l := []) (by simpa using hwl) l1 (.inl rfl) (.inl rfl) (by omega) (by omega) (by omega)
  rw [List.nil_append] at c37
  generalize wrD (.mk op name path kids) = W at hR hwl hwne c37
  obtain ⟨H2, hH2⟩ : ∃ H2, H2 = wsH H1 1 0 2 [] W := ⟨_, rfl⟩
  rw [<- hH2] at c37
  have l2 : Abs.look H2 1 = some (bldR (.ptr 1 0) 2 W) := by rw [hH2]; exact C5u l1 (by omega) (.inl rfl)
  have r2 : A0n eB tyU H2 2 W := by rw [hH2]; exact C5v
  have l0 : Abs.look H2 0 = some (dRow op name tp tk) := by rw [hH2, A9b (by omega) (.inl rfl) (by omega), hH1]; rfl
  have c38 := E1m (q := q) (nx := 3) l2 r2
  have c39 := E1l (q := q) (nx := 3) l2 r2 hwne (by omega)
  obtain ⟨t37, e37, hok37⟩ : ∃ t, t [.ptr 1 0, .t (.ag [iv op, sv name, tp, tk])] H1 2 = some (.t (.tu []), H2, 3) /\ HOK Tryz.prog (G q) 37 t := ⟨_, A2d _ _ _ _, A2q c37 (by rw [hH2]; exact B0i (by omega))⟩
  obtain ⟨t38, e38, hok38⟩ : ∃ t, t [.ptr 1 0] H2 3 = some (.t (iv (W.length : Int)), H2, 3) /\ HOK Tryz.prog (G q) 38 t := ⟨_, A2d _ _ _ _, A2q c38 fun h => h⟩
  obtain ⟨t39, e39, hok39⟩ : ∃ t, t [.ptr 1 0] H2 3 = some (.t (sv (bs W)), rem H2 2, 3) /\ HOK Tryz.prog (G q) 39 t := ⟨_, A2d _ _ _ _, A2q c39 fun h k x hk => by
   rw [A1s] at hk
   split at hk
   ·cases hk
   ·exact h k x hk⟩
  refine A0a C0 ?_
  simp -implicitDefEqProofs [B7p]
  refine A0a C0 ?_
  simp -implicitDefEqProofs [dl4, hg]
  refine A0a C0 ?_
  simp -implicitDefEqProofs
  refine MC.sub (s' := ⟨[(5, .ptr 1 0), (3, .t (iv 0)), (2, .t (sv ⟨#[]⟩)), (1, .ptr 0 0)], H1, 2, 16⟩) (by rw [hH1]; exact A1i (by simp -implicitDefEqProofs)) rfl ?_
  have g1 : A0s true 4 H1 (.ptr 0 0) = some (.t (.ag [iv op, sv name, tp, tk])) := by rw [hH1]; rfl
  refine A0a (A0z.nil.ctxH (A1r.cons hok37 .nil) mixed) ?_
  simp -implicitDefEqProofs [g1, e37]
  by_cases hl : 65536 < W.length
  ·rw [if_pos hl] at hR
   have hl' : (65536 : Int) < (W.length : Int) := by omega
   rw [hR]
   refine A0c (A0z.nil.ctxH (A1r.cons hok38 .nil) mixed) ?_
   simp -implicitDefEqProofs [e38, hl, hl']
  ·rw [if_neg hl] at hR
   have hl' : ¬ (65536 : Int) < (W.length : Int) := by omega
   rw [hR]
   refine A0a (A0z.nil.ctxH (A1r.cons hok38 .nil) mixed) ?_
   simp -implicitDefEqProofs [e38, hl, hl']
   refine A0c (A0z.nil.ctxH (A1r.cons hok39 .nil) mixed) ?_
   simp -implicitDefEqProofs [e39]
 ·rw [if_pos he] at hR
  have hb : (E != 0) = true := by simpa using he
  rw [hR]
  refine A0c C0 ?_
  simp -implicitDefEqProofs [B7p, dl4, hg, hb]
noncomputable def D0l (ts : List T) : Option T := g1 tD (fun d => open Classical in if A8b d /\ (A1g d 1 = 0 -> Wr d) then some (priT d) else none) ts
theorem D8n {c : List T} {d : Ds} (h : Abs.IsD d c) (hs : A8b d) (hw : A1g d 1 = 0 -> Wr d) : D0l [.ag c] = some (priT d) := by
 show g1 _ _ _ = _
 rw [B2p (τ := tD) (x := d) ⟨c, rfl, h⟩, if_pos ⟨hs, hw⟩]
theorem E7j : GOK Tryz.prog (G q) 22 D0l := B2o fun a x r ha hr => by
 split at hr
 ·rename_i hc
  injection hr with hr; subst hr
  obtain ⟨c, rfl, hd⟩ := ha
  exact D3f hd hc.1 hc.2
 ·cases hr
end Go.Proofs.YtjkkgbdoeaihmaaGreatDoor
