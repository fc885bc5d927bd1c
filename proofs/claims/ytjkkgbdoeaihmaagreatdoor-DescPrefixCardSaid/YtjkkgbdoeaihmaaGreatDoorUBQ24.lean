/-
 Auxiliary facts. No statement of the program stands here.
-/
import Derived.Test.YtjkkgbdoeaihmaaGreatDoorUBQ13
import Derived.Test.YtjkkgbdoeaihmaaGreatDoorUBQ14
import Derived.Test.YtjkkgbdoeaihmaaGreatDoorUBQ15
import Derived.Test.YtjkkgbdoeaihmaaGreatDoorUBQ22
import Derived.Test.YtjkkgbdoeaihmaaGreatDoorUBQ23
namespace Go.Proofs.YtjkkgbdoeaihmaaGreatDoor
set_option linter.unusedSimpArgs false
set_option linter.unusedVariables false
open Go Go.Abs
variable {q : Gl}
abbrev pc (t : T) (i : Nat) : List T := [t, iv (i : Int)]
abbrev pr (t : T) (i : Nat) : Row := .cells 58 [.t t, .t (iv (i : Int))]
abbrev errC (e : Int) : Chain := [{ v := .iface 28 (.int .i64 e), recovered := false }]
section
variable (t : T) (i j : Nat) (x y : Row)
theorem pl0 (R : Heap) : loadM false 1 ((0, pr t i) :: R) (.ptr 0 0) = some (.t t) := rfl
theorem pl1 (R : Heap) : loadM false 1 ((0, pr t i) :: R) (.ptr 0 1) = some (.t (iv (i : Int))) := rfl
theorem pw1 (R : Heap) : storeM 1 ((0, pr t i) :: R) (.ptr 0 1) (.t (iv (j : Int))) = some ((0, pr t j) :: R) := rfl
theorem ql0 (R : Heap) : loadM false 1 ((1, x) :: (0, pr t i) :: R) (.ptr 0 0) = some (.t t) := rfl
theorem ql1 (R : Heap) : loadM false 1 ((1, x) :: (0, pr t i) :: R) (.ptr 0 1) = some (.t (iv (i : Int))) := rfl
theorem qw1 (R : Heap) : storeM 1 ((1, x) :: (0, pr t i) :: R) (.ptr 0 1) (.t (iv (j : Int))) = some ((1, x) :: (0, pr t j) :: R) := rfl
end
theorem lp1 (H : Heap) (a : T) (r : List T) : loadM false 1 H (.t (.pt (a :: r))) = some (.t a) := rfl
theorem lp3 (H : Heap) (a b c : T) (r : List T) : loadM true 3 H (.t (.pt (a :: b :: c :: r))) = some (.t (.ag [a, b, c])) := rfl
def outP (t : T) : Except Int (T × Nat) → Out
 | .ok (r, i) => .ret (.t r) [(0, pr t i)] 1
 | .error e => .pan (errC e)
def PM (P : Program) (G : Globs) (t : T) (f : FuncId) (i : Nat) (ts : List T) (o : Except Int (T × Nat)) : Prop :=
 CallO P G f (.ptr 0 0 :: ts.map .t) [(0, pr t i)] 1 (outP t o)
theorem PM.ret {P : Program} {G : Globs} {t : T} {f : FuncId} {i : Nat} {ts : List T} {r : T} {i' : Nat} {H' : Heap} {nx' : Nat} (h : CallP P G f (.ptr 0 0 :: ts.map .t) [(0, pr t i)] 1 (.t r) H' nx') (hl : Abs.look H' 0 = some (pr t i')) :
  PM P G t f i ts (.ok (r, i')) := CallP.keep1 (cs := pc t i') h hl
variable {t : T} {l : List Tok} {i : Nat}
theorem tok_at (ht : IsS eTok t l) {x : Tok} (hx : l[i]? = some x) : ∃ r, iaddrM 3 (.t t) (.t (.v (.int .i64 (i : Int)))) = some (.t (.pt (iv x.k :: sv (bs x.t) :: iv (x.l : Int) :: r))) := ⟨_, ht.iaddr hx .i64⟩
theorem peek_ok (ht : IsS eTok t l) {x : Tok} (hx : l[i]? = some x) : PM Tryz.prog (G q) t 55 i [] (.ok (.ag (eTok.enc x), i)) := by
 obtain ⟨r, hr⟩ := tok_at ht hx
 have hlen : lenslM (.t t) = some (.t (iv (l.length : Int))) := ht.len
 have hi : ¬ ((l.length : Int) ≤ (i : Int)) := by have := (List.getElem?_eq_some_iff.1 hx).1; omega
 have hi2 : ¬ l.length ≤ i := by omega
 refine PM.ret (H' := [(1, .cells 44 [.t (iv x.k), .t (sv (bs x.t)), .t (iv (x.l : Int))]), (0, pr t i)]) (nx' := 2) ?_ rfl
 refine k_desc_parser_peek.callP rfl ?_
 have ctx : Ctx Tryz.prog (G q) (orh [] []) := TblOK.nil.ctxH .nil mixed
 refine mc_runs ctx ?_
 simp -implicitDefEqProofs [M_desc_parser_peek, ql0, ql1, lp1, lp3, hlen, hr, hi, hi2]
 exact ⟨.inr rfl, _, _, Sub.refl _, rfl, rfl, rfl, rfl⟩
abbrev kt (x : Tok) : KT := (x.k, x.t)
theorem isSy_at {x : Tok} (hx : l[i]? = some x) (s : List UInt8) : isSy (l.map kt) i s = (decide (x.k = 5) && decide (x.t = s)) := by
 unfold isSy
 rw [List.getElem?_map, hx]
 rfl
theorem isSy_end (hi : l.length ≤ i) (s : List UInt8) : isSy (l.map kt) i s = false := by
 unfold isSy
 rw [List.getElem?_eq_none (by simpa using hi)]
theorem is_ok (ht : IsS eTok t l) (s : ByteArray) : PM Tryz.prog (G q) t 86 i [sv s] (.ok (bv (isSy (l.map kt) i s.data.toList), i)) := by
 refine PM.ret (H' := [(0, pr t i)]) (nx' := 1) ?_ rfl
 refine k_desc_parser_is.callP rfl ?_
 have ctx : Ctx Tryz.prog (G q) (orh [] []) := TblOK.nil.ctxH .nil mixed
 have hlen : lenslM (.t t) = some (.t (iv (l.length : Int))) := ht.len
 by_cases hi : l.length ≤ i
 ·rw [isSy_end hi]
  have hi1 : ¬ ((i : Int) < (l.length : Int)) := by omega
  have hi2 : ¬ i < l.length := by omega
  refine mc_runs ctx ?_
  simp -implicitDefEqProofs [M_desc_parser_is, pl0, pl1, lp1, hlen, hi1, hi2]
  exact ⟨.inr rfl, _, _, Sub.refl _, rfl, rfl, rfl, rfl⟩
 ·obtain ⟨x, hx⟩ : ∃ x, l[i]? = some x := ⟨_, List.getElem?_eq_getElem (by omega)⟩
  rw [isSy_at hx]
  obtain ⟨r, hr⟩ := tok_at ht hx
  have hi1 : ((i : Int) < (l.length : Int)) := by omega
  have hi2 : i < l.length := by omega
  have hts : (x.t == s.toList) = decide (x.t = s.data.toList) := by rw [toList_data]; exact Bool.eq_iff_iff.2 (by simp)
  by_cases h5 : x.k = 5
  ·have hb : (x.k == 5) = true := by rw [h5]; rfl
   have hd : decide (x.k = 5) = true := by rw [h5]; rfl
   refine mc_runs ctx ?_
   simp -implicitDefEqProofs [M_desc_parser_is, pl0, pl1, lp1, hlen, hi1, hi2, hr, hb, hd, hts]
   exact ⟨.inr rfl, _, _, Sub.refl _, rfl, rfl, rfl, rfl⟩
  ·have hb : (x.k == 5) = false := by simpa using h5
   have hd : decide (x.k = 5) = false := by simpa using h5
   refine mc_runs ctx ?_
   simp -implicitDefEqProofs [M_desc_parser_is, pl0, pl1, lp1, hlen, hi1, hi2, hr, hb, hd]
   exact ⟨.inr rfl, _, _, Sub.refl _, rfl, rfl, rfl, rfl⟩
def convP (t : T) : Except Int (T × Nat) → Except Chain (T × List T)
 | .ok (r, i) => .ok (r, pc t i)
 | .error e => .error (errC e)
abbrev PG := Nat → List T → Option (Except Int (T × Nat))
noncomputable def pSp (t : T) (g : PG) : Abs.Spec := open Classical in fun cs ts => match cs with
 | [t', .v (.int .i64 i)] => if t' = t ∧ 0 ≤ i then (g i.toNat ts).map (convP t) else none
 | _ => none
theorem pSp_eq (g : PG) (ts : List T) : pSp t g (pc t i) ts = (g i ts).map (convP t) := by
 simp [pSp]
theorem pSp_ok {P : Program} {G : Globs} {f : FuncId} {g : PG} (h : ∀ i ts o, g i ts = some o → PM P G t f i ts o) : SpecOK P G f 58 (pSp t g) := fun cs ts o ho => by
 unfold pSp at ho
 split at ho
 ·rename_i t' i
  split at ho
  ·rename_i hc
   obtain ⟨rfl, h0⟩ := hc
   obtain ⟨o', ho', rfl⟩ := Option.map_eq_some_iff.1 ho
   have := h _ _ _ ho'
   obtain ⟨n, rfl⟩ := Int.eq_ofNat_of_zero_le h0
   cases o' with
   | ok x => exact this
   | error e => exact this
  ·cases ho
 ·cases ho
noncomputable abbrev hP (t : T) (g : PG) := hObj 58 (specR (pSp t g))
noncomputable abbrev eP (t : T) (g : PG) := eObj 58 (pSp t g)
theorem hP_ret {g : PG} {b nx : Nat} {H : Heap} {ts : List T} {r : T} {i' : Nat} (hl : Abs.look H b = some (pr t i)) (hb : b < nx) (ho : g i ts = some (.ok (r, i'))) :
  hP t g (.ptr b 0 :: ts.map .t) H nx = some (.t r, upd H b (pr t i'), nx) := hObj_ret (cs := pc t i) (cs' := pc t i') hl hb (by rw [pSp_eq, ho]; rfl)
theorem eP_ret {g : PG} {b nx : Nat} {H : Heap} {ts : List T} {x : T × Nat} (hl : Abs.look H b = some (pr t i)) (ho : g i ts = some (.ok x)) :
  eP t g (.ptr b 0 :: ts.map .t) H nx = none := eObj_ret (cs := pc t i) (x := (x.1, pc t x.2)) hl (by rw [pSp_eq, ho]; rfl)
theorem eP_pan {g : PG} {b nx : Nat} {H : Heap} {ts : List T} {e : Int} (hl : Abs.look H b = some (pr t i)) (hb : b < nx) (ho : g i ts = some (.error e)) :
  eP t g (.ptr b 0 :: ts.map .t) H nx = some (errC e) := eObj_pan (cs := pc t i) hl hb (by rw [pSp_eq, ho]; rfl)
theorem peek_pan (ht : IsS eTok t l) (hi : l.length ≤ i) : PM Tryz.prog (G q) t 55 i [] (.error 9) := by
 have hlen : lenslM (.t t) = some (.t (iv (l.length : Int))) := ht.len
 have hi1 : ((l.length : Int) ≤ (i : Int)) := by omega
 refine k_desc_parser_peek.callO rfl ?_
 have ctx : Ctx Tryz.prog (G q) (orh [] []) := TblOK.nil.ctxH .nil mixed
 refine mc_runsE' ctx (ETblOK.ok .nil) rfl ?_
 simp -implicitDefEqProofs [M_desc_parser_peek, ql0, ql1, lp1, lp3, hlen, hi, hi1, outP]
noncomputable def gPeek (l : List Tok) : PG := fun i ts => match ts with
 | [] => some (match l[i]? with
  | none => .error 9
  | some x => .ok (.ag (eTok.enc x), i))
 | _ => none
theorem gPeek_ok (ht : IsS eTok t l) : ∀ i ts o, gPeek l i ts = some o → PM Tryz.prog (G q) t 55 i ts o := fun i ts o h => by
 unfold gPeek at h
 split at h
 ·injection h with h
  subst h
  cases hx : l[i]? with
  | none => exact peek_pan ht (by simpa using hx)
  | some x => exact peek_ok ht hx
 ·cases h
noncomputable def gIs (l : List Tok) : PG := fun i ts => match ts with
 | [.v (.string s)] => some (.ok (bv (isSy (l.map kt) i s.data.toList), i))
 | _ => none
theorem gIs_ok (ht : IsS eTok t l) : ∀ i ts o, gIs l i ts = some o → PM Tryz.prog (G q) t 86 i ts o := fun i ts o h => by
 unfold gIs at h
 split at h
 ·injection h with h
  subst h
  exact is_ok ht _
 ·cases h
variable {q : Gl} {t : T} {l : List Tok} {i : Nat}
theorem xl0 (k v : Int) (s : List UInt8) (R : Heap) : loadM false 1 ((1, tkr k s v) :: R) (.ptr 1 0) = some (.t (iv k)) := rfl
theorem xl1 (k v : Int) (s : List UInt8) (R : Heap) : loadM false 1 ((1, tkr k s v) :: R) (.ptr 1 1) = some (.t (sv (bs s))) := rfl
def resP {α : Type} (f : α → T) : Except Int (α × Nat) → Except Int (T × Nat)
 | .ok (x, i) => .ok (f x, i)
 | .error e => .error e
noncomputable def ctP (l : List Tok) (t : T) : HTbl := [(55, hP t (gPeek l)), (86, hP t (gIs l))]
noncomputable def cePan (l : List Tok) (t : T) : ETbl := [(55, eP t (gPeek l)), (86, eP t (gIs l))]
theorem ctxP (ht : IsS eTok t l) : Ctx Tryz.prog (G q) (orh [] (ctP l t)) := TblOK.nil.ctxH (.cons (pSp_ok (gPeek_ok ht)).hok (.cons (pSp_ok (gIs_ok ht)).hok .nil)) mixed
theorem panP (ht : IsS eTok t l) : POK Tryz.prog (G q) (orE (cePan l t)) := ETblOK.ok (.cons (pSp_ok (gPeek_ok ht)).eok (.cons (pSp_ok (gIs_ok ht)).eok .nil))
theorem kt_at : (l.map kt)[i]? = (l[i]?).map kt := List.getElem?_map ..
theorem take_ok (ht : IsS eTok t l) (k : Int) (hi : i < 4611686018427387904) : PM Tryz.prog (G q) t 82 i [iv k] (resP sv (takeK (l.map kt) i k)) := by
 cases hx : l[i]? with
 | none =>
  have e1 : takeK (l.map kt) i k = .error 9 := by unfold takeK; rw [kt_at, hx]; rfl
  rw [e1]
  refine k_desc_parser_take.callO rfl ?_
  refine mc_runsE' (ctxP ht) (panP ht) rfl ?_
  have h1 : ∀ R : Heap, eP t (gPeek l) [.ptr 0 0] ((0, pr t i) :: R) 1 = some (errC 9) := fun R => eP_pan (ts := []) rfl (by omega) (by simp [gPeek, hx])
  simp -implicitDefEqProofs [M_desc_parser_take, cePan, ctP, h1, resP, outP]
 | some x =>
  have h1 : hP t (gPeek l) [.ptr 0 0] [(0, pr t i)] 1 = some (.t (.ag (eTok.enc x)), [(0, pr t i)], 1) := hP_ret (ts := []) rfl (by omega) (by simp [gPeek, hx])
  have h2 : eP t (gPeek l) [.ptr 0 0] [(0, pr t i)] 1 = none := eP_ret (ts := []) (x := (.ag (eTok.enc x), i)) rfl (by simp [gPeek, hx])
  by_cases hk : x.k = k
  ·have e1 : takeK (l.map kt) i k = .ok (bs x.t, i + 1) := by unfold takeK; rw [kt_at, hx]; simp [hk]
   rw [e1]
   have hkn : (x.k != k) = false := by simpa using hk
   have e2 : IntKind.i64.wrap ((i : Int) + 1) = ((i + 1 : Nat) : Int) := wrap_nat (by omega) (by omega)
   refine PM.ret (H' := [(1, .cells 44 [.t (iv x.k), .t (sv (bs x.t)), .t (iv (x.l : Int))]), (0, pr t (i + 1))]) (nx' := 2) ?_ rfl
   refine k_desc_parser_take.callP rfl ?_
   refine mc_runs (ctxP ht) ?_
   simp -implicitDefEqProofs [M_desc_parser_take, ctP, h1, hkn, e2, eTok, sto3, xl0, xl1, ql1, qw1]
   exact ⟨.inr rfl, _, _, Sub.refl _, rfl, rfl, rfl, rfl⟩
  ·have e1 : takeK (l.map kt) i k = .error 8 := by unfold takeK; rw [kt_at, hx]; simp [hk]
   have hkn : (x.k != k) = true := by simpa using hk
   rw [e1]
   refine k_desc_parser_take.callO rfl ?_
   refine mc_runsE' (ctxP ht) (panP ht) rfl ?_
   simp -implicitDefEqProofs [M_desc_parser_take, cePan, ctP, h1, h2, hkn, resP, outP, eTok, sto3, xl0, xl1]
theorem isP_ret (H : Heap) (hl : Abs.look H 0 = some (pr t i)) {nx : Nat} (hb : 0 < nx) (s : ByteArray) : hP t (gIs l) [.ptr 0 0, .t (sv s)] H nx = some (.t (bv (isSy (l.map kt) i s.data.toList)), upd H 0 (pr t i), nx) :=
 hP_ret (ts := [sv s]) hl hb rfl
theorem isE_ret (H : Heap) (hl : Abs.look H 0 = some (pr t i)) {nx : Nat} (s : ByteArray) : eP t (gIs l) [.ptr 0 0, .t (sv s)] H nx = none :=
 eP_ret (ts := [sv s]) (x := (bv (isSy (l.map kt) i s.data.toList), i)) hl rfl
def skR : Except Int Nat → Except Int (T × Nat)
 | .ok p => .ok (.tu [], p)
 | .error e => .error e
theorem skip_ok (ht : IsS eTok t l) (s : ByteArray) (hi : i < 4611686018427387904) : PM Tryz.prog (G q) t 115 i [sv s] (skR (skipK (l.map kt) i s.data.toList)) := by
 cases hx : l[i]? with
 | none =>
  have hge : l.length ≤ i := by simpa using hx
  have e1 : skipK (l.map kt) i s.data.toList = .error 9 := by unfold skipK; rw [if_pos (by simpa using hge)]
  rw [e1]
  refine k_desc_parser_skip.callO rfl ?_
  refine mc_runsE' (ctxP ht) (panP ht) rfl ?_
  have h1 : eP t (gPeek l) [.ptr 0 0] [(0, pr t i)] 1 = some (errC 9) := eP_pan (ts := []) rfl (by omega) (by simp [gPeek, hx])
  simp -implicitDefEqProofs [M_desc_parser_skip, cePan, ctP, h1, skR, outP]
 | some x =>
  have hlt : ¬ (l.map kt).length ≤ i := by have := (List.getElem?_eq_some_iff.1 hx).1; simpa using this
  have h1 : hP t (gPeek l) [.ptr 0 0] [(0, pr t i)] 1 = some (.t (.ag (eTok.enc x)), [(0, pr t i)], 1) := hP_ret (ts := []) rfl (by omega) (by simp [gPeek, hx])
  have h2 : eP t (gPeek l) [.ptr 0 0] [(0, pr t i)] 1 = none := eP_ret (ts := []) (x := (.ag (eTok.enc x), i)) rfl (by simp [gPeek, hx])
  have h3 := isP_ret (l := l) [(0, pr t i)] rfl (nx := 1) (by omega) s
  have h4 := isE_ret (l := l) [(0, pr t i)] rfl (nx := 1) s
  cases hs : isSy (l.map kt) i s.data.toList with
  | true =>
   have e1 : skipK (l.map kt) i s.data.toList = .ok (i + 1) := by unfold skipK; rw [if_neg hlt, hs]; rfl
   have e2 : IntKind.i64.wrap ((i : Int) + 1) = ((i + 1 : Nat) : Int) := wrap_nat (by omega) (by omega)
   rw [e1]
   rw [hs] at h3
   refine PM.ret (H' := [(0, pr t (i + 1))]) (nx' := 1) ?_ rfl
   refine k_desc_parser_skip.callP rfl ?_
   refine mc_runs (ctxP ht) ?_
   simp -implicitDefEqProofs [M_desc_parser_skip, ctP, h1, h3, e2, pl1, pw1]
   exact ⟨.inl rfl, _, _, Sub.refl _, rfl, rfl, rfl, rfl⟩
  | false =>
   have e1 : skipK (l.map kt) i s.data.toList = .error 8 := by unfold skipK; rw [if_neg hlt, hs]; rfl
   rw [e1]
   rw [hs] at h3
   refine k_desc_parser_skip.callO rfl ?_
   refine mc_runsE' (ctxP ht) (panP ht) rfl ?_
   simp -implicitDefEqProofs [M_desc_parser_skip, cePan, ctP, h1, h2, h3, h4, skR, outP]
def moreR (b : Bool) (n most : Int) (i : Nat) : Except Int (T × Nat) := if b then (if most ≤ n then .error 7 else .ok (bv true, i + 1)) else .ok (bv false, i)
theorem more_ok (ht : IsS eTok t l) (s : ByteArray) (n most : Int) (hi : i < 4611686018427387904) : PM Tryz.prog (G q) t 57 i [sv s, iv n, iv most] (moreR (isSy (l.map kt) i s.data.toList) n most i) := by
 have h3 := isP_ret (l := l) [(0, pr t i)] rfl (nx := 1) (by omega) s
 have h4 := isE_ret (l := l) [(0, pr t i)] rfl (nx := 1) s
 cases hs : isSy (l.map kt) i s.data.toList with
 | false =>
  rw [hs] at h3
  refine PM.ret (H' := [(0, pr t i)]) (nx' := 1) ?_ rfl
  refine k_desc_parser_more.callP rfl ?_
  refine mc_runs (ctxP ht) ?_
  simp -implicitDefEqProofs [M_desc_parser_more, ctP, h3]
  exact ⟨.inr rfl, _, _, Sub.refl _, rfl, rfl, rfl, rfl⟩
 | true =>
  rw [hs] at h3
  unfold moreR
  rw [if_pos rfl]
  by_cases hm : most ≤ n
  ·rw [if_pos hm]
   refine k_desc_parser_more.callO rfl ?_
   refine mc_runsE' (ctxP ht) (panP ht) rfl ?_
   simp -implicitDefEqProofs [M_desc_parser_more, cePan, ctP, h3, h4, hm, outP]
  ·rw [if_neg hm]
   have e2 : IntKind.i64.wrap ((i : Int) + 1) = ((i + 1 : Nat) : Int) := wrap_nat (by omega) (by omega)
   refine PM.ret (H' := [(0, pr t (i + 1))]) (nx' := 1) ?_ rfl
   refine k_desc_parser_more.callP rfl ?_
   refine mc_runs (ctxP ht) ?_
   simp -implicitDefEqProofs [M_desc_parser_more, ctP, h3, hm, e2, pl1, pw1]
   exact ⟨.inr rfl, _, _, Sub.refl _, rfl, rfl, rfl, rfl⟩
noncomputable def gTake (l : List Tok) : PG := fun i ts => match ts with
 | [.v (.int .i64 k)] => if i < 4611686018427387904 then some (resP sv (takeK (l.map kt) i k)) else none
 | _ => none
theorem gTake_ok (ht : IsS eTok t l) : ∀ i ts o, gTake l i ts = some o → PM Tryz.prog (G q) t 82 i ts o := fun i ts o h => by
 unfold gTake at h
 split at h
 ·split at h
  ·injection h with h
   subst h
   exact take_ok ht _ (by assumption)
  ·cases h
 ·cases h
noncomputable def gSkip (l : List Tok) : PG := fun i ts => match ts with
 | [.v (.string s)] => if i < 4611686018427387904 then some (skR (skipK (l.map kt) i s.data.toList)) else none
 | _ => none
theorem gSkip_ok (ht : IsS eTok t l) : ∀ i ts o, gSkip l i ts = some o → PM Tryz.prog (G q) t 115 i ts o := fun i ts o h => by
 unfold gSkip at h
 split at h
 ·split at h
  ·injection h with h
   subst h
   exact skip_ok ht _ (by assumption)
  ·cases h
 ·cases h
noncomputable def gMore (l : List Tok) : PG := fun i ts => match ts with
 | [.v (.string s), .v (.int .i64 n), .v (.int .i64 m)] => if i < 4611686018427387904 then some (moreR (isSy (l.map kt) i s.data.toList) n m i) else none
 | _ => none
theorem gMore_ok (ht : IsS eTok t l) : ∀ i ts o, gMore l i ts = some o → PM Tryz.prog (G q) t 57 i ts o := fun i ts o h => by
 unfold gMore at h
 split at h
 ·split at h
  ·injection h with h
   subst h
   exact more_ok ht _ _ _ (by assumption)
  ·cases h
 ·cases h
section
variable {l : List KT} {rec : Nat → Res Ds}
def Fwd (l : List KT) (rec : Nat → Res Ds) : Prop := ∀ p d p', rec p = .ok (d, p') → p < p' ∧ p' ≤ l.length
theorem take_fwd {p p' : Nat} {k : Int} {s : ByteArray} (h : takeK l p k = .ok (s, p')) : p' = p + 1 ∧ p < l.length := by
 unfold takeK at h
 split at h
 ·cases h
 ·rename_i t ht
  have := (List.getElem?_eq_some_iff.1 ht).1
  split at h
  ·injection h with h; injection h with _ h; exact ⟨h.symm, this⟩
  ·cases h
theorem skip_fwd {p p' : Nat} {s : List UInt8} (h : skipK l p s = .ok p') : p' = p + 1 ∧ p < l.length := by
 unfold skipK at h
 split at h
 ·cases h
 ·split at h
  ·injection h with h; exact ⟨h.symm, by omega⟩
  ·cases h
theorem isSy_lt {p : Nat} {s : List UInt8} (h : isSy l p s = true) : p < l.length := by
 unfold isSy at h
 split at h
 ·rename_i t ht; exact (List.getElem?_eq_some_iff.1 ht).1
 ·cases h
theorem path_fwd : ∀ (f p : Nat) (path path' : List ByteArray) (p' : Nat), pathS l f p path = .ok (path', p') → path.length ≤ 64 → p ≤ p' ∧ (p ≤ l.length → p' ≤ l.length) ∧ path.length ≤ path'.length ∧ path'.length ≤ 64
 | 0, p, path, path', p', h, _ => by cases h
 | f + 1, p, path, path', p', h, hl => by
  rw [pathS] at h
  split at h
  ·split at h
   ·cases h
   ·split at h
    ·cases h
    ·rename_i s p1 h1
     obtain ⟨e1, h2⟩ := take_fwd h1
     have ih := path_fwd f _ _ _ _ h (by simp; omega)
     simp only [List.length_append, List.length_singleton] at ih
     omega
  ·injection h with h; injection h with e1 e2; subst e1; subst e2
   exact ⟨Nat.le_refl _, fun h => h, Nat.le_refl _, hl⟩
theorem pair_fwd (hr : Fwd l rec) {p p' : Nat} {d : Ds} (h : pairS l rec p = .ok (d, p')) : p < p' ∧ p' ≤ l.length := by
 unfold pairS at h
 split at h
 ·cases h
 ·rename_i s p1 h1
  obtain ⟨e1, h2⟩ := take_fwd h1
  split at h
  ·cases h
  ·rename_i path p2 h3
   have h4 := path_fwd _ _ _ _ _ h3 (by simp)
   split at h
   ·cases h
   ·rename_i d' p3 h5
    have h6 := hr _ _ _ h5
    injection h with h; injection h with _ e
    omega
theorem br_fwd (hr : Fwd l rec) : ∀ (f p : Nat) (parts parts' : List Ds) (p' : Nat), brS l rec f p parts = .ok (parts', p') → p < p' ∧ p' ≤ l.length ∧ parts.length < parts'.length ∧ (parts.length ≤ 255 → parts'.length ≤ 256)
 | 0, p, parts, parts', p', h => by cases h
 | f + 1, p, parts, parts', p', h => by
  rw [brS] at h
  split at h
  ·cases h
  ·rename_i d p1 h1
   have h2 := pair_fwd hr h1
   split at h
   ·split at h
    ·cases h
    ·have ih := br_fwd hr f _ _ _ _ h
     simp only [List.length_append, List.length_singleton] at ih
     omega
   ·split at h
    ·cases h
    ·rename_i p2 h3
     have h4 := skip_fwd h3
     injection h with h; injection h with e1 e2; subst e1; subst e2
     simp only [List.length_append, List.length_singleton]
     omega
theorem it_fwd (hr : Fwd l rec) : ∀ (f p : Nat) (kids kids' : List Ds) (p' : Nat), itS l rec f p kids = .ok (kids', p') → kids.length ≤ 256 → p ≤ p' ∧ (p ≤ l.length → p' ≤ l.length) ∧ kids.length ≤ kids'.length ∧ kids'.length ≤ 256
 | 0, p, kids, kids', p', h, _ => by cases h
 | f + 1, p, kids, kids', p', h, hl => by
  rw [itS] at h
  split at h
  ·split at h
   ·cases h
   ·split at h
    ·cases h
    ·rename_i d p1 h1
     have h2 := hr _ _ _ h1
     have ih := it_fwd hr f _ _ _ _ h (by simp; omega)
     simp only [List.length_append, List.length_singleton] at ih
     omega
  ·injection h with h; injection h with e1 e2; subst e1; subst e2
   exact ⟨Nat.le_refl _, fun h => h, Nat.le_refl _, hl⟩
theorem close_fwd {s : List UInt8} {op : Int} {kids : List Ds} {p p' : Nat} {d : Ds} (h : closeS l s op kids p = .ok (d, p')) : p' = p + 1 ∧ p < l.length := by
 unfold closeS at h
 split at h
 ·cases h
 ·rename_i p1 h1
  injection h with h; injection h with _ e
  have := skip_fwd h1
  omega
theorem lst_fwd (hr : Fwd l rec) {p p' : Nat} {d : Ds} (h : lstS l rec p = .ok (d, p')) : p < p' ∧ p' ≤ l.length := by
 unfold lstS at h
 split at h
 ·cases h
 ·split at h
  ·have := close_fwd h; omega
  ·split at h
   ·cases h
   ·rename_i d1 p1 h1
    have h2 := hr _ _ _ h1
    split at h
    ·cases h
    ·rename_i kids p2 h3
     have h4 := it_fwd hr _ _ _ _ _ h3 (by simp)
     split at h
     ·split at h
      ·cases h
      ·split at h
       ·cases h
       ·rename_i d3 p3 h5
        have h6 := hr _ _ _ h5
        have := close_fwd h
        omega
     ·have := close_fwd h
      omega
theorem dff_fwd (hr : Fwd l rec) {p p' : Nat} {d : Ds} (h : dffS l rec p = .ok (d, p')) : p < p' ∧ p' ≤ l.length := by
 unfold dffS at h
 split at h
 ·cases h
 ·split at h
  ·have := close_fwd h; omega
  ·split at h
   ·cases h
   ·rename_i d1 p1 h1
    have h2 := hr _ _ _ h1
    split at h
    ·cases h
    ·rename_i kids p2 h3
     have h4 := it_fwd hr _ _ _ _ _ h3 (by simp)
     have := close_fwd h
     omega
theorem more_fwd {parts parts' : List Ds} {p p' : Nat} {r : Res Ds} (hr : ∀ d p', r = .ok (d, p') → p < p' ∧ p' ≤ l.length) (h : moreS parts r = .ok (parts', p')) : p < p' ∧ p' ≤ l.length ∧ parts'.length = parts.length + 1 := by
 unfold moreS at h
 split at h
 ·cases h
 ·rename_i d p1
  injection h with h; injection h with e1 e2; subst e1; subst e2
  have := hr _ _ rfl
  exact ⟨this.1, this.2, by simp⟩
theorem name_fwd {op k : Int} {p p' : Nat} {d : Ds} (h : nameS op (takeK l p k) = .ok (d, p')) : p' = p + 1 ∧ p < l.length := by
 unfold nameS at h
 split at h
 ·cases h
 ·rename_i s p1 h1
  injection h with h; injection h with _ e
  have := take_fwd h1
  omega
theorem term_fwd (hr : Fwd l rec) {p p' : Nat} {parts parts' : List Ds} (h : termS l rec p parts = .ok (parts', p')) : p < p' ∧ p' ≤ l.length ∧ parts.length < parts'.length ∧ (parts.length ≤ 255 → parts'.length ≤ 256) := by
 unfold termS at h
 split at h
 ·cases h
 ·rename_i t ht
  have hp := (List.getElem?_eq_some_iff.1 ht).1
  split at h
  ·injection h with h; injection h with e1 e2; subst e1; subst e2
   simp only [List.length_append, List.length_singleton]
   omega
  ·split at h
   ·cases h
   ·split at h
    ·have := more_fwd (l := l) (p := p + 1) (fun d p' h => by have := name_fwd h; omega) h; omega
    ·split at h
     ·have := more_fwd (l := l) (p := p + 1) (fun d p' h => by have := name_fwd h; omega) h; omega
     ·split at h
      ·have := br_fwd hr _ _ _ _ _ h; omega
      ·split at h
       ·have := more_fwd (l := l) (p := p + 1) (fun d p' h => lst_fwd hr h) h; omega
       ·split at h
        ·have := more_fwd (l := l) (p := p + 1) (fun d p' h => dff_fwd hr h) h; omega
        ·cases h
theorem and_fwd (hr : Fwd l rec) : ∀ (f p : Nat) (parts parts' : List Ds) (p' : Nat), andS l rec f p parts = .ok (parts', p') → parts.length ≤ 256 → p ≤ p' ∧ (p ≤ l.length → p' ≤ l.length) ∧ parts.length ≤ parts'.length ∧ parts'.length ≤ 256
 | 0, p, parts, parts', p', h, _ => by cases h
 | f + 1, p, parts, parts', p', h, hl => by
  rw [andS] at h
  split at h
  ·split at h
   ·cases h
   ·split at h
    ·cases h
    ·rename_i parts1 p1 h1
     have h2 := term_fwd hr h1
     have ih := and_fwd hr f _ _ _ _ h (by omega)
     omega
  ·injection h with h; injection h with e1 e2; subst e1; subst e2
   exact ⟨Nat.le_refl _, fun h => h, Nat.le_refl _, hl⟩
theorem des_fwd : ∀ n, Fwd l (desS l n)
 | 0 => fun p d p' h => by
  rw [desS] at h
  split at h <;> cases h
 | n + 1 => fun p d p' h => by
  rw [desS] at h
  split at h
  ·cases h
  ·split at h
   ·cases h
   ·rename_i parts p1 h1
    have h2 := term_fwd (des_fwd n) h1
    split at h
    ·cases h
    ·rename_i parts' p2 h3
     have h4 := and_fwd (des_fwd n) _ _ _ _ _ h3 (h2.2.2.2 (by simp))
     injection h with h; injection h with _ e
     omega
end
end Go.Proofs.YtjkkgbdoeaihmaaGreatDoor
namespace Go.Abs
set_option linter.unusedSimpArgs false
set_option linter.unusedVariables false
open Go
def isHc : MK → Bool
 | .hcall _ => true
 | _ => false
@[simp] theorem isHc_mv : isHc .mv = false := rfl
@[simp] theorem isHc_faddr (n : Nat) : isHc (.faddr n) = false := rfl
@[simp] theorem isHc_load (b : Bool) (n : Nat) : isHc (.load b n) = false := rfl
@[simp] theorem isHc_bin (b : Bool) (op : BinOp) (nk : Option NK) : isHc (.bin b op nk) = false := rfl
@[simp] theorem isHc_tslice (e n : Nat) (zc : List Value) (len : Nat) (idx : List Nat) : isHc (.tslice e n zc len idx) = false := rfl
@[simp] theorem isHc_app (e n b : Nat) : isHc (.app e n b) = false := rfl
@[simp] theorem isHc_store (n : Nat) : isHc (.store n) = false := rfl
section
variable {α : Type} {P : Program} {G : Globs} {B : Nat}
theorem frzP_t (H : Heap) (F : List Nat) (x : T) : frzP H F (.t x) = .t x := rfl
theorem frzRow_t (H : Heap) (F : List Nat) (ty : TypeId) (cs : List T) : frzRow H F (.cells ty (cs.map .t)) = .cells ty (cs.map .t) := by
 simp only [frzRow, List.map_map]
 rfl
theorem renL_t (σ : Nat → Nat) : ∀ cs : List T, renL σ (cs.map .t) = cs.map .t
 | [] => rfl
 | c :: cs => by simp only [List.map_cons, renL, renL_t σ cs, ren]
theorem underL_t (n : Nat) : ∀ cs : List T, underL n (cs.map .t) = true
 | [] => rfl
 | c :: cs => by simp only [List.map_cons, underL, underL_t n cs, under, Bool.and_self]
theorem sub_row_tree {e : Enc α} {ty ty0 b k nx n : Nat} {l : List α} {env : List (Nat × PV)} {H : Heap} {cs : List T} (h : RowAt e ty H b l) (hb0 : b ≠ 0) (h0 : look H 0 = some (.cells ty0 (cs.map .t)))
  (hk : look env k = some (rowP e b l)) (hB : B ≤ 1) : Sub P G B ⟨env, H, nx, n⟩ ⟨[(k, .t (treeS e l))], [(0, .cells ty0 (cs.map .t))], 1, n⟩ := by
 have h1 : Sub P G B ⟨env, H, nx, n⟩ (AState.frz ⟨env, H, nx, n⟩ [b]) := sub_frz [b]
 refine h1.trans ?_
 refine sub_ren (fun x => x) rfl hB (fun _ _ => rfl) (fun q hq => ?_) (fun q hq => ?_) (fun _ _ _ _ e => e)
 ·simp only [List.mem_singleton] at hq
  subst hq
  refine ⟨?_, rfl⟩
  simp only [AState.frz, look_map, hk, Option.map_some, ren]
  unfold frzP
  rw [h.toT]
  have : (lentS b l).all ([b].contains ·) = true := by cases l <;> simp [lentS]
  simp only [this, if_true]
 ·simp only [List.mem_singleton] at hq
  subst hq
  refine ⟨?_, by show 0 < 1; omega, underL_t _ _⟩
  simp only [AState.frz, look_map]
  rw [show look (remAll H [b]) 0 = look H 0 by simp only [remAll, List.foldl_cons, List.foldl_nil]; rw [look_rem, if_neg (Ne.symm hb0)], h0, Option.map_some, frzRow_t]
  simp only [renRow, renL_t]
end
section
variable {Φ : Oracle} {E : Pans} {env : List (Nat × PV)} {H : Heap} {nx n j : Nat} {K : AState → Prop} {X : Chain → Prop} {d : Option Nat} {k : MK} {xs : List Opd} {gr : List GI} {pd : Pend} {kp : Bool} {ag : List Nat}
@[simp] theorem runsGE_nil {s : AState} : runsGE Φ E j pd [] s K X = K s := rfl
@[simp] theorem runsGE_quiet (hk : quietK k = true) (hc : isHc k = false) : runsGE Φ E j pd (.o ⟨d, k, xs, none⟩ kp ag :: gr) ⟨env, H, nx, n⟩ K X =
  ifSome (evalQ Φ H nx k (xs.map (·.ev env))) fun v => agains Φ pd H nx ag (runsGE Φ E (j + 1) (keepG kp j ⟨d, k, xs, none⟩ ⟨env, H, nx, n⟩ v pd) gr (AState.set ⟨env, H, nx, n⟩ d (v, H, nx)) K X) := by
 have hp : panM E ⟨env, H, nx, n⟩ ⟨d, k, xs, none⟩ = none := by
  unfold panM
  split
  ·rename_i f e; simp only at e; subst e; cases hc
  ·rfl
 simp only [runsGE, hp, onPan_none, valD, hk, if_true, valQ, Mini.wants, ifSome_map]
@[simp] theorem runsGE_heavy (hk : quietK k = false) (hc : isHc k = false) : runsGE Φ E j pd (.o ⟨d, k, xs, none⟩ kp ag :: gr) ⟨env, H, nx, n⟩ K X =
  ifSome (evalK Φ H nx k (xs.map (·.ev env))) fun q => agains Φ pd q.2.1 q.2.2 ag (runsGE Φ E (j + 1) (keepG kp j ⟨d, k, xs, none⟩ ⟨env, H, nx, n⟩ q.1 pd) gr (AState.set ⟨env, H, nx, n⟩ d q) K X) := by
 have hp : panM E ⟨env, H, nx, n⟩ ⟨d, k, xs, none⟩ = none := by
  unfold panM
  split
  ·rename_i f e; simp only at e; subst e; cases hc
  ·rfl
 simp only [runsGE, hp, onPan_none, valD, hk, Bool.false_eq_true, if_false, Mini.wants]
@[simp] theorem runsGE_hcall {f : Nat} : runsGE Φ E j pd (.o ⟨d, .hcall f, xs, none⟩ kp ag :: gr) ⟨env, H, nx, n⟩ K X =
  onPan (E f (xs.map (·.ev env)) H nx) X (ifSome (evalK Φ H nx (.hcall f) (xs.map (·.ev env))) fun q => agains Φ pd q.2.1 q.2.2 ag (runsGE Φ E (j + 1) (keepG kp j ⟨d, .hcall f, xs, none⟩ ⟨env, H, nx, n⟩ q.1 pd) gr (AState.set ⟨env, H, nx, n⟩ d q) K X)) := by
 have hq : quietK (.hcall f) = false := rfl
 simp only [runsGE, panM, valD, hq, Bool.false_eq_true, if_false, Mini.wants]
end
end Go.Abs
namespace Go.Proofs.YtjkkgbdoeaihmaaGreatDoor
set_option linter.unusedSimpArgs false
set_option linter.unusedVariables false
open Go Go.Abs
variable {q : Gl} {t : T} {l : List Tok} {i : Nat}
abbrev dT (d : Ds) : T := .ag (encD d)
theorem bsD (d : Ds) (b : Nat) : bsliceM 25 4 [.int .i64 0, .string ⟨#[]⟩, .slice none 0 0, .slice none 0 0] 1 [(0, .t (dT d))] b = some (.row b 0 1 4, .cells 25 ((encD d).map .t)) := by
 cases d
 rw [dT, encD]
 rfl
noncomputable def gDes (l : List Tok) (n : Nat) : PG := fun i ts => match ts with
 | [.v (.int .i64 v)] => if v = 65 - (n : Int) ∧ i ≤ l.length then some (resP dT (desS (l.map kt) n i)) else none
 | _ => none
theorem gDes_eq {n : Nat} (hi : i ≤ l.length) : gDes l n i [iv (65 - (n : Int))] = some (resP dT (desS (l.map kt) n i)) := if_pos ⟨rfl, hi⟩
abbrev DesOK (q : Gl) (t : T) (l : List Tok) (n : Nat) : Prop := ∀ i ts o, gDes l n i ts = some o → PM Tryz.prog (G q) t 34 i ts o
def itemsS (L : List KT) (n i : Nat) : Res (List Ds) := match desS L n i with
 | .error e => .error e
 | .ok (d, p) => itS L (desS L n) (L.length + 1) p [d]
noncomputable def ctI (l : List Tok) (t : T) (n : Nat) : HTbl := [(57, hP t (gMore l)), (34, hP t (gDes l n))]
noncomputable def ceI (l : List Tok) (t : T) (n : Nat) : ETbl := [(57, eP t (gMore l)), (34, eP t (gDes l n))]
theorem ctxI (ht : IsS eTok t l) {n : Nat} (hD : DesOK q t l n) : Ctx Tryz.prog (G q) (orh [] (ctI l t n)) := TblOK.nil.ctxH (.cons (pSp_ok (gMore_ok ht)).hok (.cons (pSp_ok hD).hok .nil)) mixed
theorem panI (ht : IsS eTok t l) {n : Nat} (hD : DesOK q t l n) : POK Tryz.prog (G q) (orE (ceI l t n)) := ETblOK.ok (.cons (pSp_ok (gMore_ok ht)).eok (.cons (pSp_ok hD).eok .nil))
structure It where
 f : Nat
 p : Nat
 kids : List Ds
def SIt (t : T) (v : Int) (a : It) : AState := ⟨[(5, rowP eD 1 a.kids), (1, .t (iv v)), (0, .ptr 0 0)], [(0, pr t a.p)] ++ rowH eD 25 1 a.kids, 2, 23⟩
structure OkIt (L : List KT) (n : Nat) (R : Res (List Ds)) (a : It) : Prop where
 le : a.p ≤ L.length
 fu : L.length - a.p < a.f
 kl : a.kids.length ≤ 1000
 eq : itS L (desS L n) a.f a.p a.kids = R
def outI (t : T) (b : Bool) : Res (List Ds) → Out
 | .error e => .pan (errC e)
 | .ok (kids, p) => bif b then .ret (rowP eD 1 kids) ([(0, pr t p)] ++ rowH eD 25 1 kids) 2 else .ret (.t (treeS eD kids)) [(0, pr t p)] 1
theorem items_core (rows : Bool) (ht : IsS eTok t l) (hlim : l.length ≤ 1000000) {n : Nat} (hD : DesOK q t l n) (hF : Fwd (l.map kt) (desS (l.map kt) n)) (hn : n ≤ 64) (hi : i ≤ l.length) :
  CallO Tryz.prog (G q) 116 [.ptr 0 0, .t (iv (64 - (n : Int)))] [(0, pr t i)] 1 (outI t rows (itemsS (l.map kt) n i)) := by
 obtain ⟨L, hL⟩ : ∃ L, L = l.map kt := ⟨_, rfl⟩
 have hLl : L.length = l.length := by rw [hL, List.length_map]
 rw [← hL] at hF
 rw [← hL]
 have ev : IntKind.i64.wrap (64 - (n : Int) + 1) = 65 - (n : Int) := by
  rw [wrap_i64 (by omega) (by omega)]; omega
 have gd : ∀ {p : Nat}, p ≤ l.length → gDes l n p [iv (65 - (n : Int))] = some (resP dT (desS L n p)) := fun hp => by rw [gDes_eq hp, hL]
 refine k_desc_parser_items.callO rfl ?_
 unfold M_desc_parser_items
 refine mc_seq_runsE (ctxI ht hD) (panI ht hD) rfl ?_
 simp -implicitDefEqProofs
 refine mc_seq_runsE (ctxI ht hD) (panI ht hD) rfl ?_
 cases hd : desS L n i with
 | error e =>
  have e1 : itemsS L n i = .error e := by unfold itemsS; rw [hd]
  rw [e1]
  have h1 : eP t (gDes l n) [.ptr 0 0, .t (iv (65 - (n : Int)))] [(0, pr t i)] 1 = some (errC e) := eP_pan (ts := [iv (65 - (n : Int))]) rfl (by omega) (by rw [gd hi, hd]; rfl)
  simp -implicitDefEqProofs [ctI, ceI, ev, h1, outI]
 | ok x =>
  obtain ⟨d, p0⟩ := x
  have hf0 := hF i d p0 hd
  rw [hLl] at hf0
  obtain ⟨R, hR⟩ : ∃ R, R = itS L (desS L n) (L.length + 1) p0 [d] := ⟨_, rfl⟩
  have e1 : itemsS L n i = R := by unfold itemsS; rw [hd]; exact hR.symm
  rw [e1]
  have h1 : hP t (gDes l n) [.ptr 0 0, .t (iv (65 - (n : Int)))] [(0, pr t i)] 1 = some (.t (dT d), [(0, pr t p0)], 1) := hP_ret (ts := [iv (65 - (n : Int))]) rfl (by omega) (by rw [gd hi, hd]; rfl)
  have h2 : eP t (gDes l n) [.ptr 0 0, .t (iv (65 - (n : Int)))] [(0, pr t i)] 1 = none := eP_ret (ts := [iv (65 - (n : Int))]) (x := (dT d, p0)) rfl (by rw [gd hi, hd]; rfl)
  simp -implicitDefEqProofs [ctI, ceI, ev, h1, h2, bsD]
  refine mc_cut (α := It) (SIt t (64 - (n : Int))) (fun a => R = .ok (a.kids, a.p)) (fun _ => rfl) ?_ ?_
  ·refine mc_block ?_
   refine mc_while (SIt t (64 - (n : Int))) (fun a => a.f) (OkIt L n R) ⟨L.length + 1, p0, [d]⟩ (fun _ => rfl) ⟨by show p0 ≤ _; omega, by show L.length - p0 < L.length + 1; omega, by simp, hR.symm⟩ ?_ rfl ?_
   ·exact sub_rowR (k := 1) (.inr (by simp [rowOf, Abs.look, eD])) (by omega) (by omega) (by simp -implicitDefEqProofs [renRow, renL, ren, underRow, underL, under]) (by simp -implicitDefEqProofs [rowP, ren, under, eD])
   ·rintro ⟨f, p, kids⟩ ⟨hp, hfu, hkl, heq⟩
    simp only at hp hfu hkl heq
    rw [hLl] at hp hfu
    obtain ⟨f', rfl⟩ : ∃ f', f = f' + 1 := ⟨f - 1, by omega⟩
    rw [itS] at heq
    obtain ⟨H0, hH0⟩ : ∃ H0, H0 = [(0, pr t p)] ++ rowH eD 25 1 kids := ⟨_, rfl⟩
    have hu0 : ∀ p', upd H0 0 (pr t p') = [(0, pr t p')] ++ rowH eD 25 1 kids := fun p' => by rw [hH0]; simp [upd]
    have hl0 : Abs.look H0 0 = some (pr t p) := by rw [hH0]; rfl
    have hlen : lenslM (rowP eD 1 kids) = some (.t (iv (kids.length : Int))) := len_rowP eD 1 kids
    have gm : gMore l p [sv ⟨#[44]⟩, iv (kids.length : Int), iv 256] = some (moreR (isSy L p [44]) (kids.length : Int) 256 p) := by rw [hL]; exact if_pos (by omega)
    cases hs : isSy L p [44] with
    | false =>
     rw [hs] at gm
     rw [hs] at heq
     simp only [Bool.false_eq_true, if_false] at heq
     have m1 := hP_ret (t := t) (g := gMore l) (b := 0) (nx := 2) (H := H0) hl0 (by omega) (gm.trans rfl : _ = some (.ok (bv false, p)))
     have m2 := eP_ret (t := t) (g := gMore l) (b := 0) (nx := 2) (H := H0) hl0 (gm.trans rfl : _ = some (.ok (bv false, p)))
     rw [hu0] at m1
     rw [hH0] at m1 m2
     simp only [List.map_cons, List.map_nil, List.cons_append, List.nil_append] at m1 m2
     refine mc_runsE' (ctxI ht hD) (panI ht hD) rfl ?_
     simp -implicitDefEqProofs [SIt, ctI, ceI, hlen, m1, m2]
     refine Abs.Next.mk ⟨f', p, kids⟩ heq.symm ?_
     exact sub_rowR (k := 1) ((RowAt.head' eD 25 1 kids).cons (by omega)) (by omega) (by omega) (by simp -implicitDefEqProofs [renRow, renL, ren, underRow, underL, under]) (by simp -implicitDefEqProofs [ren_rowP, under_rowP, ren, under])
    | true =>
     rw [hs] at gm
     rw [hs] at heq
     simp only [if_true] at heq
     have hpl : p < l.length := by have := isSy_lt hs; omega
     by_cases hbig : 256 ≤ kids.length
     ·rw [if_pos hbig] at heq
      have gm' : gMore l p [sv ⟨#[44]⟩, iv (kids.length : Int), iv 256] = some (.error 7) := by rw [gm, moreR, if_pos rfl, if_pos (by omega)]
      have m3 := eP_pan (t := t) (g := gMore l) (b := 0) (nx := 2) (H := H0) hl0 (by omega) gm'
      rw [hH0] at m3
      simp only [List.map_cons, List.map_nil, List.cons_append, List.nil_append] at m3
      refine mc_runsE' (ctxI ht hD) (panI ht hD) rfl ?_
      rw [← heq]
      simp -implicitDefEqProofs [SIt, ctI, ceI, hlen, m3, outI]
     ·rw [if_neg hbig] at heq
      have gm' : gMore l p [sv ⟨#[44]⟩, iv (kids.length : Int), iv 256] = some (.ok (bv true, p + 1)) := by rw [gm, moreR, if_pos rfl, if_neg (by omega)]
      have m1 := hP_ret (t := t) (g := gMore l) (b := 0) (nx := 2) (H := H0) hl0 (by omega) gm'
      have m2 := eP_ret (t := t) (g := gMore l) (b := 0) (nx := 2) (H := H0) hl0 gm'
      rw [hu0] at m1
      rw [hH0] at m1 m2
      simp only [List.map_cons, List.map_nil, List.cons_append, List.nil_append] at m1 m2
      have hl1 : Abs.look ((0, pr t (p + 1)) :: rowH eD 25 1 kids) 0 = some (pr t (p + 1)) := rfl
      cases hd2 : desS L n (p + 1) with
      | error e =>
       rw [hd2] at heq
       simp only at heq
       have m3 := eP_pan (t := t) (g := gDes l n) (b := 0) (nx := 2) hl1 (by omega) (by rw [gd (by omega), hd2]; rfl)
       simp only [List.map_cons, List.map_nil] at m3
       refine mc_runsE' (ctxI ht hD) (panI ht hD) rfl ?_
       rw [← heq]
       simp -implicitDefEqProofs [SIt, ctI, ceI, hlen, m1, m2, ev, m3, outI]
      | ok x =>
       obtain ⟨d2, p2⟩ := x
       rw [hd2] at heq
       simp only at heq
       have hf2 := hF _ _ _ hd2
       rw [hLl] at hf2
       have m3 := hP_ret (t := t) (g := gDes l n) (b := 0) (nx := 2) (r := dT d2) (i' := p2) hl1 (by omega) (by rw [gd (by omega), hd2]; rfl)
       have m4 := eP_ret (t := t) (g := gDes l n) (b := 0) (nx := 2) (x := (dT d2, p2)) hl1 (by rw [gd (by omega), hd2]; rfl)
       simp only [List.map_cons, List.map_nil] at m3 m4
       have hu1 : upd ((0, pr t (p + 1)) :: rowH eD 25 1 kids) 0 (pr t p2) = (0, pr t p2) :: rowH eD 25 1 kids := by simp [upd]
       rw [hu1] at m3
       have r0' : RowAt eD 25 ((2, .cells 25 ((encD d2).map .t)) :: (0, pr t p2) :: rowH eD 25 1 kids) 1 kids := ((RowAt.head' eD 25 1 kids).cons (k := 0) (by omega)).cons (k := 2) (by omega)
       obtain ⟨b2, H2, n2, ap2, r2, ne2, hle2, hold, hb2⟩ := app_some (e := eD) (ty := 25) (by' := 72) (nx := 3) (m := [d2]) r0' (src_one (e := eD) (b := 2) (ty := 25) d2 rfl) (by simp; omega) (by simp; omega)
       have ap2' : appM 25 4 72 ((2, .cells 25 ((encD d2).map .t)) :: (0, pr t p2) :: rowH eD 25 1 kids) 3 (rowP eD 1 kids) (.row 2 0 1 4) = some (rowP eD b2 (kids ++ [d2]), H2, n2) := ap2
       have hl2 : Abs.look H2 0 = some (pr t p2) := (hold 0 (by omega) (by omega)).trans rfl
       refine mc_runsE' (ctxI ht hD) (panI ht hD) rfl ?_
       simp -implicitDefEqProofs [SIt, ctI, ceI, hlen, m1, m2, ev, m3, m4, bsD, ap2']
       refine Abs.Next.mk ⟨f', p2, kids ++ [d2]⟩ ⟨⟨by show p2 ≤ _; omega, by show L.length - p2 < f'; omega, by simp; omega, heq⟩, by show f' < f' + 1; omega⟩ ?_
       exact sub_rowR (k := b2) r2 (by omega) (by omega) (by simp -implicitDefEqProofs [renRow, renL, ren, underRow, underL, under, hl2]; omega) (by simp -implicitDefEqProofs [ren_rowP, under_rowP, ren, under])
  ·rintro ⟨f, p, kids⟩ hR2
   simp only at hR2
   rw [hR2]
   refine mc_runsE' (ctxI ht hD) (panI ht hD) rfl ?_
   simp -implicitDefEqProofs [SIt, outI]
   cases rows with
   | true => exact endsO_mk (rs := [rowP eD 1 kids]) (.inr rfl) (Sub.refl _) rfl rfl rfl rfl
   | false =>
   exact endsO_mk (rs := [.t (treeS eD kids)]) (.inr rfl) (sub_row_tree (k := 4) (b := 1) (l := kids) (cs := pc t p) ((RowAt.head' eD 25 1 kids).cons (by omega)) (by omega) rfl (by simp -implicitDefEqProofs) (Nat.le_refl _)) (by simp -implicitDefEqProofs) rfl rfl rfl
theorem items_ok (ht : IsS eTok t l) (hlim : l.length ≤ 1000000) {n : Nat} (hD : DesOK q t l n) (hF : Fwd (l.map kt) (desS (l.map kt) n)) (hn : n ≤ 64) (hi : i ≤ l.length) :
  PM Tryz.prog (G q) t 116 i [iv (64 - (n : Int))] (resP (treeS eD) (itemsS (l.map kt) n i)) := by
 have h := items_core (q := q) false ht hlim hD hF hn hi
 unfold PM
 cases hh : itemsS (l.map kt) n i with
 | error e => rw [hh] at h; exact h
 | ok x => rw [hh] at h; exact h
theorem items_row (ht : IsS eTok t l) (hlim : l.length ≤ 1000000) {n : Nat} (hD : DesOK q t l n) (hF : Fwd (l.map kt) (desS (l.map kt) n)) (hn : n ≤ 64) (hi : i ≤ l.length) {kids : List Ds} {p : Nat} (hs : itemsS (l.map kt) n i = .ok (kids, p)) :
  CallP Tryz.prog (G q) 116 [.ptr 0 0, .t (iv (64 - (n : Int)))] [(0, pr t i)] 1 (rowP eD 1 kids) ([(0, pr t p)] ++ rowH eD 25 1 kids) 2 := by
 have h := items_core (q := q) true ht hlim hD hF hn hi
 rw [hs] at h
 exact h
variable {q : Gl} {t : T} {l : List Tok} {i : Nat}
section
variable (a b c d x : T) (y z u v : PV) (X : Row) (R H : Heap)
theorem sd2 : storeM 4 ((2, .cells 25 [y, z, u, v]) :: R) (.ptr 2 0) (.t (.ag [a, b, c, d])) = some ((2, .cells 25 [.t a, .t b, .t c, .t d]) :: R) := rfl
theorem ld4 : loadM true 4 ((2, .cells 25 [.t a, .t b, .t c, .t d]) :: R) (.ptr 2 0) = some (.t (.ag [a, b, c, d])) := rfl
theorem sd1 : storeM 4 ((2, X) :: (1, .cells 25 [y, z, u, v]) :: R) (.ptr 1 0) (.t (.ag [a, b, c, d])) = some ((2, X) :: (1, .cells 25 [.t a, .t b, .t c, .t d]) :: R) := rfl
theorem sd23 (kids : List Ds) : storeM 1 ((2, .cells 25 [.t a, .t b, .t c, .t d]) :: R) (.ptr 2 3) (.t (treeS eD kids)) = some ((2, .cells 25 [.t a, .t b, .t c, .t (treeS eD kids)]) :: R) := by cases kids <;> rfl
theorem bd1 {Φ : Oracle} {nx : Nat} (k : Int) : evalK Φ H nx (.build [(0, 1), (1, 1), (2, 1), (3, 1)] [.int .i64 0, .string ⟨#[]⟩, .slice none 0 0, .slice none 0 0] [0]) [.t (iv k)] = some (.t (.ag [iv k, sv ⟨#[]⟩, nilS, nilS]), H, nx) := rfl
end
theorem items_fwd {L : List KT} {n i p : Nat} {kids : List Ds} (hF : Fwd L (desS L n)) (h : itemsS L n i = .ok (kids, p)) : i < p ∧ p ≤ L.length ∧ kids.length ≤ 256 := by
 unfold itemsS at h
 cases hd : desS L n i with
 | error e => rw [hd] at h; cases h
 | ok x =>
  obtain ⟨d, p0⟩ := x
  rw [hd] at h
  have h1 := hF i d p0 hd
  have h2 := it_fwd hF _ _ _ _ _ h (by simp)
  omega
noncomputable def gItems (l : List Tok) (n : Nat) : PG := fun i ts => match ts with
 | [.v (.int .i64 v)] => if v = 64 - (n : Int) ∧ i ≤ l.length then some (resP (treeS eD) (itemsS (l.map kt) n i)) else none
 | _ => none
theorem gItems_eq {n : Nat} (hi : i ≤ l.length) : gItems l n i [iv (64 - (n : Int))] = some (resP (treeS eD) (itemsS (l.map kt) n i)) := if_pos ⟨rfl, hi⟩
theorem gItems_ok (ht : IsS eTok t l) (hlim : l.length ≤ 1000000) {n : Nat} (hD : DesOK q t l n) (hF : Fwd (l.map kt) (desS (l.map kt) n)) (hn : n ≤ 64) :
  ∀ i ts o, gItems l n i ts = some o → PM Tryz.prog (G q) t 116 i ts o := fun i ts o h => by
 unfold gItems at h
 split at h
 ·split at h
  ·rename_i hc
   obtain ⟨rfl, hi⟩ := hc
   injection h with h
   subst h
   exact items_ok ht hlim hD hF hn hi
  ·cases h
 ·cases h
noncomputable def ctL (l : List Tok) (t : T) (n : Nat) : HTbl := [(55, hP t (gPeek l)), (86, hP t (gIs l)), (115, hP t (gSkip l)), (57, hP t (gMore l)), (116, hP t (gItems l n)), (34, hP t (gDes l n))]
noncomputable def ceL (l : List Tok) (t : T) (n : Nat) : ETbl := [(55, eP t (gPeek l)), (86, eP t (gIs l)), (115, eP t (gSkip l)), (57, eP t (gMore l)), (116, eP t (gItems l n)), (34, eP t (gDes l n))]
section
variable {n : Nat} (ht : IsS eTok t l) (hlim : l.length ≤ 1000000) (hD : DesOK q t l n) (hF : Fwd (l.map kt) (desS (l.map kt) n)) (hn : n ≤ 64)
include ht hlim hD hF hn
theorem ctxL : Ctx Tryz.prog (G q) (orh [] (ctL l t n)) :=
 TblOK.nil.ctxH (.cons (pSp_ok (gPeek_ok ht)).hok (.cons (pSp_ok (gIs_ok ht)).hok (.cons (pSp_ok (gSkip_ok ht)).hok (.cons (pSp_ok (gMore_ok ht)).hok (.cons (pSp_ok (gItems_ok ht hlim hD hF hn)).hok (.cons (pSp_ok hD).hok .nil)))))) mixed
theorem panL : POK Tryz.prog (G q) (orE (ceL l t n)) :=
 ETblOK.ok (.cons (pSp_ok (gPeek_ok ht)).eok (.cons (pSp_ok (gIs_ok ht)).eok (.cons (pSp_ok (gSkip_ok ht)).eok (.cons (pSp_ok (gMore_ok ht)).eok (.cons (pSp_ok (gItems_ok ht hlim hD hF hn)).eok (.cons (pSp_ok hD).eok .nil))))))
theorem dff_ok (hi : i ≤ l.length) : PM Tryz.prog (G q) t 85 i [iv (64 - (n : Int))] (resP dT (dffS (l.map kt) (desS (l.map kt) n) i)) := by
 have C := ctxL ht hlim hD hF hn
 have E := panL ht hlim hD hF hn
 obtain ⟨L, hL⟩ : ∃ L, L = l.map kt := ⟨_, rfl⟩
 have hLl : L.length = l.length := by rw [hL, List.length_map]
 have hgi : ∀ p, p ≤ l.length → gItems l n p [iv (64 - (n : Int))] = some (resP (treeS eD) (itemsS L n p)) := fun p hp => by rw [gItems_eq hp, hL]
 rw [← hL]
 cases hx : l[i]? with
 | none =>
  have hge : l.length ≤ i := by simpa using hx
  have e1 : dffS L (desS L n) i = .error 9 := by unfold dffS; rw [if_pos (by omega)]
  rw [e1]
  have h1 : ∀ R : Row, eP t (gPeek l) [.ptr 0 0] [(1, R), (0, pr t i)] 2 = some (errC 9) := fun R => eP_pan (ts := []) rfl (by omega) (by simp [gPeek, hx])
  refine k_desc_parser_difference.callO rfl ?_
  refine mc_runsE' C E rfl ?_
  simp -implicitDefEqProofs [M_desc_parser_difference, ctL, ceL, h1, resP, outP]
 | some x =>
  have hlt : i < l.length := (List.getElem?_eq_some_iff.1 hx).1
  obtain ⟨Z, hZ⟩ : ∃ Z : Row, Z = .cells 25 [.t (iv 0), .t (sv ⟨#[]⟩), .t nilS, .t nilS] := ⟨_, rfl⟩
  have h1 : hP t (gPeek l) [.ptr 0 0] [(1, .cells 25 [.t (iv 0), .t (sv ⟨#[]⟩), .t nilS, .t nilS]), (0, pr t i)] 2 = some (.t (.ag (eTok.enc x)), [(1, .cells 25 [.t (iv 0), .t (sv ⟨#[]⟩), .t nilS, .t nilS]), (0, pr t i)], 2) := hP_ret (ts := []) rfl (by omega) (by simp [gPeek, hx])
  have h2 : eP t (gPeek l) [.ptr 0 0] [(1, .cells 25 [.t (iv 0), .t (sv ⟨#[]⟩), .t nilS, .t nilS]), (0, pr t i)] 2 = none := eP_ret (ts := []) (x := (.ag (eTok.enc x), i)) rfl (by simp [gPeek, hx])
  have hu : ∀ (X Y : Row) (p p' : Nat), upd [(2, X), (1, Y), (0, pr t p)] 0 (pr t p') = [(2, X), (1, Y), (0, pr t p')] := fun _ _ _ _ => rfl
  have h3 : ∀ X Y : Row, hP t (gIs l) [.ptr 0 0, .t (sv ⟨#[33, 62]⟩)] [(2, X), (1, Y), (0, pr t i)] 3 = some (.t (bv (isSy L i [33, 62])), [(2, X), (1, Y), (0, pr t i)], 3) := fun X Y => by
   rw [hL]; exact hP_ret (ts := [sv ⟨#[33, 62]⟩]) rfl (by omega) rfl
  have h4 : ∀ X Y : Row, eP t (gIs l) [.ptr 0 0, .t (sv ⟨#[33, 62]⟩)] [(2, X), (1, Y), (0, pr t i)] 3 = none := fun X Y =>
   eP_ret (ts := [sv ⟨#[33, 62]⟩]) (x := (bv (isSy (l.map kt) i [33, 62]), i)) rfl rfl
  have h5 : ∀ (X Y : Row) p, p ≤ l.length → ∀ p', skipK L p [33, 62] = .ok p' → hP t (gSkip l) [.ptr 0 0, .t (sv ⟨#[33, 62]⟩)] [(2, X), (1, Y), (0, pr t p)] 3 = some (.t (.tu []), [(2, X), (1, Y), (0, pr t p')], 3) := fun X Y p hp p' h => by
   rw [hL] at h
   exact hP_ret (ts := [sv ⟨#[33, 62]⟩]) rfl (by omega) ((if_pos (by omega)).trans (by show some (skR (skipK (l.map kt) p [33, 62])) = _; rw [h]; rfl))
  have h6 : ∀ (X Y : Row) p, p ≤ l.length → ∀ e, skipK L p [33, 62] = .error e → eP t (gSkip l) [.ptr 0 0, .t (sv ⟨#[33, 62]⟩)] [(2, X), (1, Y), (0, pr t p)] 3 = some (errC e) := fun X Y p hp e h => by
   rw [hL] at h
   exact eP_pan (ts := [sv ⟨#[33, 62]⟩]) rfl (by omega) ((if_pos (by omega)).trans (by show some (skR (skipK (l.map kt) p [33, 62])) = _; rw [h]; rfl))
  cases hs : isSy L i [33, 62] with
  | true =>
   have hsk : skipK L i [33, 62] = .ok (i + 1) := by unfold skipK; rw [if_neg (by omega), if_pos hs]
   have e1 : dffS L (desS L n) i = .ok (.mk 8 ⟨#[]⟩ [] [], i + 1) := by unfold dffS; rw [if_neg (by omega), if_pos hs, closeS, hsk]
   have h5' := fun X Y => h5 X Y i hi _ hsk
   rw [e1]
   rw [hs] at h3
   refine PM.ret (H' := [(2, .cells 25 [.t (iv 8), .t (sv ⟨#[]⟩), .t nilS, .t nilS]), (1, .cells 25 [.t (iv 8), .t (sv ⟨#[]⟩), .t nilS, .t nilS]), (0, pr t (i + 1))]) (nx' := 3) ?_ rfl
   refine k_desc_parser_difference.callP rfl ?_
   refine mc_runs C ?_
   simp -implicitDefEqProofs [M_desc_parser_difference, ctL, h1, -evalK_build, bd1, sd2, h3, h5', ld4, sd1]
   exact ⟨.inr rfl, _, _, Sub.refl _, rfl, by rw [dT, encD_eq]; rfl, rfl, rfl⟩
  | false =>
   have e0 : dffS L (desS L n) i = match itemsS L n i with
     | .error e => .error e
     | .ok (kids, p2) => closeS L [33, 62] 8 kids p2 := by
    unfold dffS itemsS
    rw [if_neg (by omega), hs, if_neg (by simp)]
    cases desS L n i <;> rfl
   rw [hs] at h3
   cases hit : itemsS L n i with
   | error e =>
    rw [hit] at e0
    simp only at e0
    rw [e0]
    have h7 : ∀ X Y : Row, eP t (gItems l n) [.ptr 0 0, .t (iv (64 - (n : Int)))] [(2, X), (1, Y), (0, pr t i)] 3 = some (errC e) := fun X Y =>
     eP_pan (ts := [iv (64 - (n : Int))]) rfl (by omega) (by rw [hgi i hi, hit]; rfl)
    refine k_desc_parser_difference.callO rfl ?_
    refine mc_runsE' C E rfl ?_
    simp -implicitDefEqProofs [M_desc_parser_difference, ctL, ceL, h1, h2, -evalK_build, bd1, sd2, h3, h4, h7, resP, outP]
   | ok y =>
    obtain ⟨kids, p2⟩ := y
    rw [hit] at e0
    simp only at e0
    rw [e0]
    have hp2 : p2 ≤ l.length := by
     rw [← hLl]
     exact (items_fwd (by rw [hL]; exact hF) hit).2.1
    have h7 : ∀ X Y : Row, hP t (gItems l n) [.ptr 0 0, .t (iv (64 - (n : Int)))] [(2, X), (1, Y), (0, pr t i)] 3 = some (.t (treeS eD kids), [(2, X), (1, Y), (0, pr t p2)], 3) := fun X Y =>
     hP_ret (ts := [iv (64 - (n : Int))]) rfl (by omega) (by rw [hgi i hi, hit]; rfl)
    have h8 : ∀ X Y : Row, eP t (gItems l n) [.ptr 0 0, .t (iv (64 - (n : Int)))] [(2, X), (1, Y), (0, pr t i)] 3 = none := fun X Y =>
     eP_ret (ts := [iv (64 - (n : Int))]) (x := (treeS eD kids, p2)) rfl (by rw [hgi i hi, hit]; rfl)
    cases hsk : skipK L p2 [33, 62] with
    | error e =>
     have e1 : closeS L [33, 62] 8 kids p2 = .error e := by rw [closeS, hsk]
     rw [e1]
     have h6' := fun X Y => h6 X Y p2 hp2 _ hsk
     refine k_desc_parser_difference.callO rfl ?_
     refine mc_runsE' C E rfl ?_
     simp -implicitDefEqProofs [M_desc_parser_difference, ctL, ceL, h1, h2, -evalK_build, bd1, sd2, sd23, h3, h4, h6', h7, h8, resP, outP]
    | ok p3 =>
     have e1 : closeS L [33, 62] 8 kids p2 = .ok (.mk 8 ⟨#[]⟩ [] kids, p3) := by rw [closeS, hsk]
     have h5' := fun X Y => h5 X Y p2 hp2 _ hsk
     rw [e1]
     refine PM.ret (H' := [(2, .cells 25 [.t (iv 8), .t (sv ⟨#[]⟩), .t nilS, .t (treeS eD kids)]), (1, .cells 25 [.t (iv 8), .t (sv ⟨#[]⟩), .t nilS, .t (treeS eD kids)]), (0, pr t p3)]) (nx' := 3) ?_ rfl
     refine k_desc_parser_difference.callP rfl ?_
     refine mc_runs C ?_
     simp -implicitDefEqProofs [M_desc_parser_difference, ctL, h1, -evalK_build, bd1, sd2, sd23, h3, h7, h5', ld4, sd1]
     exact ⟨.inr rfl, _, _, Sub.refl _, rfl, by rw [dT, encD_eq]; rfl, rfl, rfl⟩
end
variable {q : Gl} {t : T} {l : List Tok} {i : Nat}
theorem items_lift (ht : IsS eTok t l) (hlim : l.length ≤ 1000000) {n : Nat} (hD : DesOK q t l n) (hF : Fwd (l.map kt) (desS (l.map kt) n)) (hn : n ≤ 64) (hi : i ≤ l.length) {kids : List Ds} {p : Nat} (hs : itemsS (l.map kt) n i = .ok (kids, p)) (hne : kids ≠ []) (X Y : Row) :
  HOK Tryz.prog (G q) 116 (hOne [.ptr 0 0, .t (iv (64 - (n : Int)))] [(2, X), (1, Y), (0, pr t i)] 3 (rowP eD 3 kids, [(3, rowOf eD 25 kids), (2, X), (1, Y), (0, pr t p)], 4)) := by
 refine hOne_ok ?_ ?_
 ·have h := items_row (q := q) ht hlim hD hF hn hi hs
  have h2 := h.lift (fun b => b) 3 [(2, X), (1, Y), (0, pr t i)] [(3, rowOf eD 25 kids), (2, X), (1, Y), (0, pr t p)] (fun b hb => by omega) (fun b c _ _ e => e) (by omega)
   (fun q hq => by
    simp only [List.mem_singleton] at hq
    subst hq
    exact ⟨by simp [Abs.look, renRow, renL, ren], by show 0 < 1; omega, by simp [underRow, underL, under]⟩)
   (by simp [underL, under]) (under_rowP _ _ _ _ (by omega))
   (fun q hq => by
    rcases List.mem_append.1 hq with hq | hq
    ·simp only [List.mem_singleton] at hq
     subst hq
     exact ⟨by show 0 < 2; omega, by simp [underRow, underL, under]⟩
    ·obtain ⟨_, rfl⟩ := mem_rowH hq
     exact ⟨by show 1 < 2; omega, underRow_rowOf _ _ _ _⟩)
   (fun b x hb => by
    simp only [Abs.look] at hb
    split at hb
    ·rename_i e
     injection hb with hb
     subst hb
     refine .inl ⟨1, rowOf eD 25 kids, ?_, ?_, ?_⟩
     ·exact (RowAt.head' eD 25 1 kids).cons (k := 0) (by omega) |>.resolve_left hne
     ·simp [lifted]; omega
     ·rw [renRow_rowOf]
    ·split at hb
     ·rename_i e
      injection hb with hb
      subst hb
      refine .inr ⟨by simp [Abs.look, ← e], fun b0 x0 h0 => ?_⟩
      simp only [Abs.look] at h0
      split at h0
      ·omega
      ·cases h0
     ·split at hb
      ·rename_i e
       injection hb with hb
       subst hb
       refine .inr ⟨by simp [Abs.look, ← e], fun b0 x0 h0 => ?_⟩
       simp only [Abs.look] at h0
       split at h0
       ·omega
       ·cases h0
      ·split at hb
       ·rename_i e
        injection hb with hb
        subst hb
        refine .inl ⟨0, pr t p, rfl, by simp [lifted]; omega, by simp [renRow, renL, ren]⟩
       ·cases hb)
  have e1 : ren (lifted (fun b => b) 1 3) (rowP eD 1 kids) = rowP eD 3 kids := by rw [ren_rowP]; rfl
  rw [e1] at h2
  exact h2
 ·intro _ b x hb
  simp only [Abs.look] at hb
  split at hb
  ·omega
  ·split at hb
   ·omega
   ·split at hb
    ·omega
    ·split at hb
     ·omega
     ·cases hb
theorem sub_cellrow {P : Program} {G : Globs} {B b3 nx n p : Nat} {env : List (Nat × PV)} {H : Heap} {a b c : T} {kids : List Ds} {y0 y1 y2 y3 : T} (hB : B ≤ 3) (hr : RowAt eD 25 H b3 kids) (hb : 2 < b3)
  (h2 : Abs.look H 2 = some (.cells 25 [.t a, .t b, .t c, rowP eD b3 kids])) (h1 : Abs.look H 1 = some (.cells 25 [.t y0, .t y1, .t y2, .t y3])) (h0 : Abs.look H 0 = some (pr t p))
  (e5 : Abs.look env 5 = some (.ptr 2 0)) (e4 : Abs.look env 4 = some (.ptr 1 0)) (e0 : Abs.look env 0 = some (.ptr 0 0)) :
  Sub P G B ⟨env, H, nx, n⟩ ⟨[(5, .ptr 2 0), (4, .ptr 1 0), (0, .ptr 0 0)], [(2, .cells 25 [.t a, .t b, .t c, .t (treeS eD kids)]), (1, .cells 25 [.t y0, .t y1, .t y2, .t y3]), (0, pr t p)], 3, n⟩ := by
 have h3 : Sub P G B ⟨env, H, nx, n⟩ (AState.frz ⟨env, H, nx, n⟩ [b3]) := sub_frz [b3]
 refine h3.trans (sub_ren (fun x => x) rfl hB (fun _ _ => rfl) (fun q hq => ?_) (fun q hq => ?_) (fun _ _ _ _ e => e))
 ·simp only [AState.frz, look_map]
  simp only [List.mem_cons, List.not_mem_nil, or_false] at hq
  rcases hq with rfl | rfl | rfl
  ·rw [e5]; exact ⟨rfl, rfl⟩
  ·rw [e4]; exact ⟨rfl, rfl⟩
  ·rw [e0]; exact ⟨rfl, rfl⟩
 ·have hl : ∀ k, k ≠ b3 → Abs.look (remAll H [b3]) k = Abs.look H k := fun k hk => by
   simp only [remAll, List.foldl_cons, List.foldl_nil]
   rw [look_rem, if_neg hk]
  have hf : frzP H [b3] (rowP eD b3 kids) = .t (treeS eD kids) := by
   unfold frzP
   rw [hr.toT]
   have : (lentS b3 kids).all ([b3].contains ·) = true := by cases kids <;> simp [lentS]
   simp only [this, if_true]
  simp only [AState.frz, look_map]
  simp only [List.mem_cons, List.not_mem_nil, or_false] at hq
  rcases hq with rfl | rfl | rfl
  ·refine ⟨?_, by show 2 < 3; omega, rfl⟩
   rw [hl 2 (by omega), h2, Option.map_some]
   simp only [frzRow, List.map_cons, List.map_nil, frzP_t, hf, renRow, renL, ren]
  ·refine ⟨?_, by show 1 < 3; omega, rfl⟩
   rw [hl 1 (by omega), h1, Option.map_some]
   simp only [frzRow, List.map_cons, List.map_nil, frzP_t, renRow, renL, ren]
  ·refine ⟨?_, by show 0 < 3; omega, rfl⟩
   rw [hl 0 (by omega), h0, Option.map_some]
   simp only [frzRow, List.map_cons, List.map_nil, frzP_t, renRow, renL, ren]
end Go.Proofs.YtjkkgbdoeaihmaaGreatDoor
