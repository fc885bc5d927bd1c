/-
  word and normal of the program: what they return.
-/
import Derived.Test.YtlebaobbjehaeaaDoorE
namespace Go.Proofs.YtlebaobbjehaeaaDoor
set_option linter.unusedSimpArgs false
set_option linter.unusedVariables false
open Go Go.Abs

def wd (l : List W) (i : Nat) : W := l.getD i 0

theorem ctx0 : Ctx Tryd.prog G (orc []) := TblOK.nil.ctx mixed

theorem word_any {b : T} {l : List W} (hb : decB b = some l) (i : Nat) : CallT Tryd.prog G 33 [b, .v (.int .i64 (i : Int))] (· = uv (wd l i)) := by
  by_cases hi : i < l.length
  · have hx : l[i]? = some (wd l i) := by simp [wd, hi]
    refine k33.runs ctx0 rfl ?_
    simp -implicitDefEqProofs [M33, len_dec hb, iaddr_dec hb, load_drop _ hx, hi]
  · refine k33.runs ctx0 rfl ?_
    have hw : wd l i = 0 := by simp [wd, hi]
    simp -implicitDefEqProofs [M33, len_dec hb, hi, hw, uv]

def normL (l : List W) : List W := (l.reverse.dropWhile (· == 0)).reverse

theorem normL_zero {l : List W} {a : Nat} (ha : a < l.length) (h : l[a]? = some 0) : normL (l.take (a + 1)) = normL (l.take a) := by
  rw [List.take_add_one, h]
  simp -implicitDefEqProofs [normL]

theorem normL_stop {l : List W} {a : Nat} {x : W} (h : l[a]? = some x) (hx : x ≠ 0) : normL (l.take (a + 1)) = l.take (a + 1) := by
  rw [List.take_add_one, h]
  have : (x == 0) = false := by simpa using hx
  simp -implicitDefEqProofs only [normL, Option.toList_some, List.reverse_append, List.reverse_cons, List.reverse_nil, List.nil_append, List.cons_append, List.dropWhile_cons, this, Bool.false_eq_true, if_false, List.reverse_reverse]

def Sn (N : Nat) (t : T) (a : Nat) : AState := ⟨[(3, .t (.v (.int .i64 (a : Int)))), (0, .t t)], [], 0, N⟩


theorem normal_enc (l : List W) (hl : l.length < 9223372036854775808) : CallT Tryd.prog G 29 [encB l] (· = encB (normL l)) := by
  have hb := decB_encB l
  refine k29.call rfl ?_
  unfold M29
  refine mc_seq_runs ctx0 ?_
  simp -implicitDefEqProofs
  refine mc_seq_runs ctx0 ?_
  simp -implicitDefEqProofs [len_dec hb]
  refine mc_cut (Sn 21 (encB l)) (fun a => a ≤ l.length ∧ normL l = l.take a) (fun _ => rfl) ?_ ?_
  · refine mc_block ?_
    refine mc_while (Sn 21 (encB l)) id (fun a => a ≤ l.length ∧ normL (l.take a) = normL l) l.length (fun _ => rfl) ⟨Nat.le_refl _, by simp⟩ ?_ rfl ?_
    · refine sub_forget rfl rfl ?_ ?_ <;> simp -implicitDefEqProofs [Sn]
    · rintro a ⟨ha, hn⟩
      refine mc_runs ctx0 ?_
      cases a with
      | zero =>
        simp -implicitDefEqProofs [Sn]
        refine Next.mk 0 ?_ (sub_forget rfl rfl ?_ ?_)
        · exact ⟨by omega, by rw [← hn]; simp [normL]⟩
        all_goals simp -implicitDefEqProofs [Sn]
      | succ a =>
        have e1 : IntKind.i64.wrap (a : Int) = (a : Int) := wrap_i64 (by omega) (by omega)
        obtain ⟨x, hx⟩ : ∃ x, l[a]? = some x := ⟨_, List.getElem?_eq_getElem (by omega)⟩
        have ha' : a < l.length := by omega
        by_cases h0 : x = 0
        · subst h0
          simp -implicitDefEqProofs [Sn, e1, iaddr_dec hb, load_drop _ hx, ha', uv]
          refine Next.mk a ?_ (sub_forget rfl rfl ?_ ?_)
          · exact ⟨⟨by omega, by rw [← hn, normL_zero ha' hx]⟩, by simp⟩
          all_goals simp -implicitDefEqProofs [Sn]
        · have h0' : ((x.toNat : Int) == 0) = false := by
            rw [beq_eq_false_iff_ne]
            exact fun h => h0 (BitVec.eq_of_toNat_eq (by simpa using h))
          simp -implicitDefEqProofs [Sn, e1, iaddr_dec hb, load_drop _ hx, ha', uv, h0']
          refine Next.mk (a + 1) ?_ (sub_forget rfl rfl ?_ ?_)
          · exact ⟨by omega, by rw [← hn, normL_stop hx h0]⟩
          all_goals simp -implicitDefEqProofs [Sn]
  · rintro a ⟨ha, hn⟩
    refine mc_runs ctx0 ?_
    simp -implicitDefEqProofs [Sn, encB, sliceM, ha, hn]
end Go.Proofs.YtlebaobbjehaeaaDoor
