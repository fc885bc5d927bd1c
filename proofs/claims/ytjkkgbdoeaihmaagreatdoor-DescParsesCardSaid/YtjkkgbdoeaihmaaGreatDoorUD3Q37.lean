/-
 Auxiliary facts. No statement of the program stands here.
-/
import Derived.Test.YtjkkgbdoeaihmaaGreatDoorUD3Q36
namespace Go.Proofs.YtjkkgbdoeaihmaaGreatDoor
set_option linter.unusedSimpArgs false
set_option linter.unusedVariables false
open Go Go.Abs
variable {q : Gl}
noncomputable def tbF8 : Tbl := [(72, gTn)]
noncomputable def hbF8 : HTbl := [(70, hOfT gCo1), (73, hOfT gCo2)]
theorem ctxF8 : Ctx Tryz.prog (G q) (orh tbF8 hbF8) := (A0z.cons hTn .nil).ctxH (.cons hCo1.hok (.cons hCo2.hok .nil)) mixed
theorem E4x (path : List ByteArray) : path.any A4r = !path.all (A0r true) := by
 induction path with
 | nil => rfl
 | cons s r ih => rw [List.any_cons, List.all_cons, ih, A4r]; cases A0r true s <;> simp
theorem D8l {c : List T} {op : Int} {name : ByteArray} {path : List ByteArray} {kids : List Ds} (hd : Abs.IsD (.mk op name path kids) c) (hs : A8b (.mk op name path kids)) :
  A1k Tryz.prog (G q) 45 [.ag c] (· = iv (A9a op name path kids)) := by
 obtain ⟨s1, s2, s3, s4, s5⟩ := hs.parts
 obtain ⟨tp, tk, rfl, hp, hk⟩ := hd.parts
 have C := ctxF8 (q := q)
 have hlp : A2f (.t tp) = some (.t (iv (path.length : Int))) := hp.len
 have hlk : A2f (.t tk) = some (.t (iv (kids.length : Int))) := hk.len
 obtain ⟨W, hW⟩ : ∃ W, W = A9a op name path kids := ⟨_, rfl⟩
 rw [<- hW]
 unfold A9a at hW
 refine C6l.call rfl ?_
 unfold B6n
 refine A0a C ?_
 simp -implicitDefEqProofs [B7p]
 refine A0a C ?_
 simp -implicitDefEqProofs
 refine A2g (α := Unit) (fun _ => ⟨[(3, .t (bv (A8m op))), (4, .t (bv (decide (op = 5)))), (5, .t (bv (B0b op kids))), (1, .ptr 0 0)], [(0, dRow op name tp tk)], 1, 72⟩) (fun _ => ¬ (op < 1 \/ 8 < op)) (fun _ => rfl) ?_ ?_
 ·have hk0 : ((kids.length : Int) == 0) = decide (kids.length = 0) := by
   rw [show ((kids.length : Int) == 0) = decide ((kids.length : Int) = 0) from rfl]
   exact decide_eq_decide.2 (by omega)
  have hk1 : ((kids.length : Int) == 1) = decide (kids.length = 1) := by
   rw [show ((kids.length : Int) == 1) = decide ((kids.length : Int) = 1) from rfl]
   exact decide_eq_decide.2 (by omega)
  by_cases hr : op < 1 \/ 8 < op
  ·rw [if_pos hr] at hW
   rw [hW]
   have e : ∀ k : Int, 1 <= k -> k <= 8 -> (op == k) = false := fun k h1 h2 => by
    have : op ≠ k := by omega
    simpa using this
   have e1 := e 1 (by omega) (by omega)
   have e2 := e 2 (by omega) (by omega)
   have e3 := e 3 (by omega) (by omega)
   have e4 := e 4 (by omega) (by omega)
   have e5 := e 5 (by omega) (by omega)
   have e6 := e 6 (by omega) (by omega)
   have e7 := e 7 (by omega) (by omega)
   have e8 := e 8 (by omega) (by omega)
   refine A0c C ?_
   simp -implicitDefEqProofs [dl0, e1, e2, e3, e4, e5, e6, e7, e8]
  ·have h8 : op = 1 \/ op = 2 \/ op = 3 \/ op = 4 \/ op = 5 \/ op = 6 \/ op = 7 \/ op = 8 := by omega
   have goS : ∀ {env : List (Nat × PV)} {k : Int} {X Y : Bool} {Z : Bool}, op = k -> A8m k = X -> decide (k = 5) = Y -> B0b k kids = Z -> Abs.look env 3 = some (.t (bv X)) -> Abs.look env 4 = some (.t (bv Y)) -> Abs.look env 5 = some (.t (bv Z)) -> Abs.look env 1 = some (.ptr 0 0) ->
     Sub Tryz.prog (G q) 0 ⟨env, [(0, dRow k name tp tk)], 1, 72⟩ ⟨[(3, .t (bv (A8m k))), (4, .t (bv (decide (k = 5)))), (5, .t (bv (B0b k kids))), (1, .ptr 0 0)], [(0, dRow k name tp tk)], 1, 72⟩ := by
    intro env k X Y Z _ hX hY hZ h3 h4 h5 h1
    refine A1i ?_
    rw [hX, hY, hZ]
    intro x hx
    simp only [List.mem_cons, List.not_mem_nil, or_false] at hx
    rcases hx with rfl | rfl | rfl | rfl
    ·exact h3
    ·exact h4
    ·exact h5
    ·exact h1
   clear hW hr
   rcases h8 with rfl | rfl | rfl | rfl | rfl | rfl | rfl | rfl
   ·refine A0c C ?_
    simp -implicitDefEqProofs [dl0, dl3, hlk]
    exact Abs.Next.mk () trivial (goS rfl rfl rfl (by unfold B0b; exact (if_pos rfl).trans hk0.symm) rfl rfl rfl rfl)
   ·refine A0c C ?_
    simp -implicitDefEqProofs [dl0, dl3, hlk]
    exact Abs.Next.mk () trivial (goS rfl rfl rfl (by unfold B0b; exact (if_pos rfl).trans hk0.symm) rfl rfl rfl rfl)
   ·refine A0c C ?_
    simp -implicitDefEqProofs [dl0, dl3, hlk]
    exact Abs.Next.mk () trivial (goS rfl rfl rfl (by unfold B0b; exact (if_pos rfl).trans hk0.symm) rfl rfl rfl rfl)
   ·have hg := E4v hk s4
    have ho : hOfT gCo1 [.t tk, .t (fv 71)] [(0, dRow 4 name tp tk)] 1 = some (.t (bv (kids.any fun d => decide (d.op = 4))), [(0, dRow 4 name tp tk)], 1) := by
     simp only [hOfT, toTs, toT, Option.bind_some, hg, Option.map_some, B5x, if_true]
    have hkB : B0b 4 kids = (decide (2 <= kids.length) && !(kids.any fun k => decide (k.op = 4))) := rfl
    generalize (kids.any fun k => decide (k.op = 4)) = A at ho hkB
    by_cases h2 : 1 < kids.length
    ·have h2' : (1 : Int) < (kids.length : Int) := by omega
     rw [decide_eq_true (by omega : 2 <= kids.length), Bool.true_and] at hkB
     refine A0c C ?_
     simp -implicitDefEqProofs [hbF8, dl0, dl3, hlk, h2, h2', ho]
     exact Abs.Next.mk () trivial (goS rfl rfl rfl hkB rfl rfl rfl rfl)
    ·have h2' : ¬ (1 : Int) < (kids.length : Int) := by omega
     rw [decide_eq_false (by omega : ¬ 2 <= kids.length), Bool.false_and] at hkB
     refine A0c C ?_
     simp -implicitDefEqProofs [hbF8, dl0, dl3, hlk, h2, h2', ho]
     exact Abs.Next.mk () trivial (goS rfl rfl rfl hkB rfl rfl rfl rfl)
   ·refine A0c C ?_
    simp -implicitDefEqProofs [dl0, dl3, hlk]
    exact Abs.Next.mk () trivial (goS rfl rfl rfl hk1.symm rfl rfl rfl rfl)
   ·refine A0c C ?_
    simp -implicitDefEqProofs [dl0, dl3, hlk]
    exact Abs.Next.mk () trivial (goS rfl rfl rfl rfl rfl rfl rfl rfl)
   ·refine A0c C ?_
    simp -implicitDefEqProofs [dl0, dl3, hlk]
    exact Abs.Next.mk () trivial (goS rfl rfl rfl (decide_eq_decide.2 (by omega)) rfl rfl rfl rfl)
   ·refine A0c C ?_
    simp -implicitDefEqProofs [dl0, dl3, hlk]
    exact Abs.Next.mk () trivial (goS rfl rfl rfl rfl rfl rfl rfl rfl)
 ·rintro ⟨⟩ hn
  rw [if_neg hn] at hW
  unfold B8p at hW
  have hgn := E7g s1
  have hsz : (!name.toList.isEmpty) = decide (name.size ≠ 0) := by
   rw [A4o]
   cases hn2 : name.data.toList with
   | nil =>
    have : name.data.toList.length = name.size := rfl
    rw [hn2] at this
    have : name.size = 0 := this.symm
    rw [this]; rfl
   | cons x r =>
    have : name.data.toList.length = name.size := rfl
    rw [hn2] at this
    have h0 : name.size ≠ 0 := by rw [<- this]; simp
    simp [h0]
  have hne : A0r false name = true -> (!name.toList.isEmpty) = true := fun h => by
   rw [hsz]
   refine decide_eq_true fun h0 => ?_
   rw [B7s h0] at h
   cases h
  have hsz2 : decide (name.size = 0) = name.toList.isEmpty := by
   have h := congrArg (fun b => !b) hsz
   simp only [Bool.not_not] at h
   rw [h]
   simp
  have h0 : decide ((0 : Int) < (path.length : Int)) = decide (0 < path.length) := decide_eq_decide.2 (by omega)
  have hg2 := E4w hp s2 s3
  rw [E4x] at hg2
  have ho : hOfT gCo2 [.t tp, .t (fv 74)] [(0, dRow op name tp tk)] 1 = some (.t (bv (!path.all (A0r true))), [(0, dRow op name tp tk)], 1) := by
   simp only [hOfT, toTs, toT, Option.bind_some, hg2, Option.map_some, B5x, if_true]
  rw [hsz2] at hW
  obtain ⟨A, hA⟩ : ∃ A, A = path.all (A0r true) := ⟨_, rfl⟩
  rw [<- hA] at hW ho
  have hP0 : decide ((0 : Int) < (path.length : Int)) = decide (0 < path.length) := h0
  refine A2g (α := Unit) (fun _ => ⟨[(1, .ptr 0 0)], [(0, dRow op name tp tk)], 1, 72⟩) (fun _ => W = if A then 0 else 1) (fun _ => rfl) ?_ ?_
  ·cases hK : B0b op kids with
   | false =>
    rw [hK] at hW
    have hW1 : W = 1 := by simpa using hW
    rw [hW1]
    refine A0c C ?_
    simp -implicitDefEqProofs
   | true =>
    rw [hK] at hW
    cases hL : A8m op with
    | true =>
     rw [hL] at hW
     simp only [if_true] at hW
     cases hE : name.toList.isEmpty with
     | true =>
      have hN : A0r false name = false := by
       cases h : A0r false name with
       | false => rfl
       | true => have := hne h; rw [hE] at this; cases this
      rw [hN] at hW
      have hW1 : W = 1 := by simpa using hW
      rw [hW1]
      refine A0c C ?_
      simp -implicitDefEqProofs [dl1, hE]
     | false =>
      cases hN : A0r false name with
      | false =>
       rw [hN] at hW hgn
       have hW1 : W = 1 := by simpa using hW
       rw [hW1]
       refine A0c C ?_
       simp -implicitDefEqProofs [tbF8, dl1, hE, hgn]
      | true =>
       rw [hN] at hW hgn
       cases hP : (decide (op = 5) == decide (0 < path.length)) with
       | false =>
        rw [hP] at hW
        have hW1 : W = 1 := by simpa using hW
        rw [hW1]
        refine A0c C ?_
        simp -implicitDefEqProofs [tbF8, dl1, dl2, hlp, hE, hgn, hP]
       | true =>
        rw [hP] at hW
        have hW2 : W = if A then 0 else 1 := by simpa using hW
        refine A0c C ?_
        simp -implicitDefEqProofs [tbF8, dl1, dl2, hlp, hE, hgn, hP]
        exact Abs.Next.mk () hW2 (A1i (by simp -implicitDefEqProofs))
    | false =>
     rw [hL] at hW
     simp only [Bool.false_eq_true, if_false] at hW
     cases hE : name.toList.isEmpty with
     | false =>
      rw [hE] at hW
      have hW1 : W = 1 := by simpa using hW
      rw [hW1]
      refine A0c C ?_
      simp -implicitDefEqProofs [tbF8, dl1, hE]
     | true =>
      rw [hE] at hW
      cases hP : (decide (op = 5) == decide (0 < path.length)) with
      | false =>
       rw [hP] at hW
       have hW1 : W = 1 := by simpa using hW
       rw [hW1]
       refine A0c C ?_
       simp -implicitDefEqProofs [tbF8, dl1, dl2, hlp, hE, hP]
      | true =>
       rw [hP] at hW
       have hW2 : W = if A then 0 else 1 := by simpa using hW
       refine A0c C ?_
       simp -implicitDefEqProofs [tbF8, dl1, dl2, hlp, hE, hP]
       exact Abs.Next.mk () hW2 (A1i (by simp -implicitDefEqProofs))
  ·rintro ⟨⟩ hW2
   rw [hW2]
   cases A with
   | true =>
    refine A0c C ?_
    simp -implicitDefEqProofs [hbF8, dl2, ho]
   | false =>
    refine A0c C ?_
    simp -implicitDefEqProofs [hbF8, dl2, ho]
noncomputable def E7i (ts : List T) : Option T := g1 tD (fun d => open Classical in if A8b d then some (iv (A9a d.op d.name d.path d.kids)) else none) ts
theorem hForm : GOK Tryz.prog (G q) 45 E7i := B2o fun a x r ha hr => by
 split at hr
 ·rename_i hc
  injection hr with hr; subst hr
  obtain ⟨c, rfl, hd⟩ := ha
  cases x with
  | mk op name path kids => exact D8l hd hc
 ·cases hr
theorem E1q {c : List T} {op : Int} {name : ByteArray} {path : List ByteArray} {kids : List Ds} (h : Abs.IsD (.mk op name path kids) c) (hs : A8b (.mk op name path kids)) : E7i [.ag c] = some (iv (A9a op name path kids)) := by
 show g1 _ _ _ = _
 rw [B2p (τ := tD) (x := .mk op name path kids) ⟨c, rfl, h⟩]
 exact if_pos hs
end Go.Proofs.YtjkkgbdoeaihmaaGreatDoor
