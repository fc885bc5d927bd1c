/-
 Auxiliary facts. No statement of the program stands here.
-/
import Derived.Test.YtjkkgbdoeaihmaaGreatDoorUD3Q13
import Derived.Test.YtjkkgbdoeaihmaaGreatDoorUD3Q14
import Derived.Test.YtjkkgbdoeaihmaaGreatDoorUD3Q15
import Derived.Test.YtjkkgbdoeaihmaaGreatDoorUD3Q22
import Derived.Test.YtjkkgbdoeaihmaaGreatDoorUD3Q23
namespace Go.Proofs.YtjkkgbdoeaihmaaGreatDoor
set_option linter.unusedSimpArgs false
set_option linter.unusedVariables false
open Go Go.Abs
variable {q : Gl}
abbrev pc (t : T) (i : Nat) : List T := [t, iv (i : Int)]
abbrev pr (t : T) (i : Nat) : Row := .cells 58 [.t t, .t (iv (i : Int))]
abbrev errC (e : Int) : A2m := [{ v := .iface 28 (.int .i64 e), recovered := false }]
section
variable (t : T) (i j : Nat) (x y : Row)
theorem pl0 (R : Heap) : A0s false 1 ((0, pr t i) :: R) (.ptr 0 0) = some (.t t) := rfl
theorem pl1 (R : Heap) : A0s false 1 ((0, pr t i) :: R) (.ptr 0 1) = some (.t (iv (i : Int))) := rfl
theorem pw1 (R : Heap) : A1b 1 ((0, pr t i) :: R) (.ptr 0 1) (.t (iv (j : Int))) = some ((0, pr t j) :: R) := rfl
theorem ql0 (R : Heap) : A0s false 1 ((1, x) :: (0, pr t i) :: R) (.ptr 0 0) = some (.t t) := rfl
theorem ql1 (R : Heap) : A0s false 1 ((1, x) :: (0, pr t i) :: R) (.ptr 0 1) = some (.t (iv (i : Int))) := rfl
theorem qw1 (R : Heap) : A1b 1 ((1, x) :: (0, pr t i) :: R) (.ptr 0 1) (.t (iv (j : Int))) = some ((1, x) :: (0, pr t j) :: R) := rfl
end
theorem lp1 (H : Heap) (a : T) (r : List T) : A0s false 1 H (.t (.pt (a :: r))) = some (.t a) := rfl
theorem lp3 (H : Heap) (a b c : T) (r : List T) : A0s true 3 H (.t (.pt (a :: b :: c :: r))) = some (.t (.ag [a, b, c])) := rfl
def outP (t : T) : Except Int (T × Nat) -> Out
 | .ok (r, i) => .ret (.t r) [(0, pr t i)] 1
 | .error e => .pan (errC e)
def PM (P : Program) (G : A0t) (t : T) (f : FuncId) (i : Nat) (ts : List T) (o : Except Int (T × Nat)) : Prop :=
 B7f P G f (.ptr 0 0 :: ts.map .t) [(0, pr t i)] 1 (outP t o)
theorem PM.ret {P : Program} {G : A0t} {t : T} {f : FuncId} {i : Nat} {ts : List T} {r : T} {i' : Nat} {H' : Heap} {nx' : Nat} (h : A1d P G f (.ptr 0 0 :: ts.map .t) [(0, pr t i)] 1 (.t r) H' nx') (hl : Abs.look H' 0 = some (pr t i')) :
  PM P G t f i ts (.ok (r, i')) := A1d.keep1 (cs := pc t i') h hl
variable {t : T} {l : List Tok} {i : Nat}
theorem C0b (ht : IsS eTok t l) {x : Tok} (hx : l[i]? = some x) : ∃ r, A4v 3 (.t t) (.t (.v (.int .i64 (i : Int)))) = some (.t (.pt (iv x.k :: sv (bs x.t) :: iv (x.l : Int) :: r))) := ⟨_, ht.iaddr hx .i64⟩
theorem E3q (ht : IsS eTok t l) {x : Tok} (hx : l[i]? = some x) : PM Tryz.prog (G q) t 55 i [] (.ok (.ag (eTok.enc x), i)) := by
 obtain ⟨r, hr⟩ := C0b ht hx
 have hlen : A2f (.t t) = some (.t (iv (l.length : Int))) := ht.len
 have hi : ¬ ((l.length : Int) <= (i : Int)) := by have := (List.getElem?_eq_some_iff.1 hx).1; omega
 have hi2 : ¬ l.length <= i := by omega
 refine PM.ret (H' := [(1, .cells 44 [.t (iv x.k), .t (sv (bs x.t)), .t (iv (x.l : Int))]), (0, pr t i)]) (nx' := 2) ?_ rfl
 refine A7f.callP rfl ?_
 have ctx : Ctx Tryz.prog (G q) (orh [] []) := A0z.nil.ctxH .nil mixed
 refine A0c ctx ?_
 simp -implicitDefEqProofs [A5a, ql0, ql1, lp1, lp3, hlen, hr, hi, hi2]
 exact ⟨.inr rfl, _, _, Sub.refl _, rfl, rfl, rfl, rfl⟩
abbrev kt (x : Tok) : KT := (x.k, x.t)
theorem D5n {x : Tok} (hx : l[i]? = some x) (s : List UInt8) : isSy (l.map kt) i s = (decide (x.k = 5) && decide (x.t = s)) := by
 unfold isSy
 rw [List.getElem?_map, hx]
 rfl
theorem C1p (hi : l.length <= i) (s : List UInt8) : isSy (l.map kt) i s = false := by
 unfold isSy
 rw [List.getElem?_eq_none (by simpa using hi)]
theorem is_ok (ht : IsS eTok t l) (s : ByteArray) : PM Tryz.prog (G q) t 86 i [sv s] (.ok (bv (isSy (l.map kt) i s.data.toList), i)) := by
 refine PM.ret (H' := [(0, pr t i)]) (nx' := 1) ?_ rfl
 refine B5d.callP rfl ?_
 have ctx : Ctx Tryz.prog (G q) (orh [] []) := A0z.nil.ctxH .nil mixed
 have hlen : A2f (.t t) = some (.t (iv (l.length : Int))) := ht.len
 by_cases hi : l.length <= i
 ·rw [C1p hi]
  have hi1 : ¬ ((i : Int) < (l.length : Int)) := by omega
  have hi2 : ¬ i < l.length := by omega
  refine A0c ctx ?_
  simp -implicitDefEqProofs [A4i, pl0, pl1, lp1, hlen, hi1, hi2]
  exact ⟨.inr rfl, _, _, Sub.refl _, rfl, rfl, rfl, rfl⟩
 ·obtain ⟨x, hx⟩ : ∃ x, l[i]? = some x := ⟨_, List.getElem?_eq_getElem (by omega)⟩
  rw [D5n hx]
  obtain ⟨r, hr⟩ := C0b ht hx
  have hi1 : ((i : Int) < (l.length : Int)) := by omega
  have hi2 : i < l.length := by omega
  have hts : (x.t == s.toList) = decide (x.t = s.data.toList) := by rw [A4o]; exact Bool.eq_iff_iff.2 (by simp)
  by_cases h5 : x.k = 5
  ·have hb : (x.k == 5) = true := by rw [h5]; rfl
   have hd : decide (x.k = 5) = true := by rw [h5]; rfl
   refine A0c ctx ?_
   simp -implicitDefEqProofs [A4i, pl0, pl1, lp1, hlen, hi1, hi2, hr, hb, hd, hts]
   exact ⟨.inr rfl, _, _, Sub.refl _, rfl, rfl, rfl, rfl⟩
  ·have hb : (x.k == 5) = false := by simpa using h5
   have hd : decide (x.k = 5) = false := by simpa using h5
   refine A0c ctx ?_
   simp -implicitDefEqProofs [A4i, pl0, pl1, lp1, hlen, hi1, hi2, hr, hb, hd]
   exact ⟨.inr rfl, _, _, Sub.refl _, rfl, rfl, rfl, rfl⟩
def E5q (t : T) : Except Int (T × Nat) -> Except A2m (T × List T)
 | .ok (r, i) => .ok (r, pc t i)
 | .error e => .error (errC e)
abbrev PG := Nat -> List T -> Option (Except Int (T × Nat))
noncomputable def pSp (t : T) (g : PG) : Abs.Spec := open Classical in fun cs ts => match cs with
 | [t', .v (.int .i64 i)] => if t' = t /\ 0 <= i then (g i.toNat ts).map (E5q t) else none
 | _ => none
theorem D5o (g : PG) (ts : List T) : pSp t g (pc t i) ts = (g i ts).map (E5q t) := by
 simp [pSp]
theorem A1y {P : Program} {G : A0t} {f : FuncId} {g : PG} (h : ∀ i ts o, g i ts = some o -> PM P G t f i ts o) : C4n P G f 58 (pSp t g) := fun cs ts o ho => by
 unfold pSp at ho
 split at ho
 ·rename_i t' i
  split at ho
  ·rename_i hc
   obtain ⟨rfl, h0⟩ := hc
   obtain ⟨o', ho', rfl⟩ := Option.map_eq_some_iff.1 ho
   have := h _ _ _ ho'
   obtain ⟨n, rfl⟩ := Int.eq_ofNat_of_zero_le h0
   cases o' with
   | ok x => exact this
   | error e => exact this
  ·cases ho
 ·cases ho
noncomputable abbrev hP (t : T) (g : PG) := hObj 58 (D5m (pSp t g))
noncomputable abbrev eP (t : T) (g : PG) := eObj 58 (pSp t g)
theorem A3g {g : PG} {b nx : Nat} {H : Heap} {ts : List T} {r : T} {i' : Nat} (hl : Abs.look H b = some (pr t i)) (hb : b < nx) (ho : g i ts = some (.ok (r, i'))) :
  hP t g (.ptr b 0 :: ts.map .t) H nx = some (.t r, upd H b (pr t i'), nx) := D9y (cs := pc t i) (cs' := pc t i') hl hb (by rw [D5o, ho]; rfl)
theorem A3i {g : PG} {b nx : Nat} {H : Heap} {ts : List T} {x : T × Nat} (hl : Abs.look H b = some (pr t i)) (ho : g i ts = some (.ok x)) :
  eP t g (.ptr b 0 :: ts.map .t) H nx = none := D9z (cs := pc t i) (x := (x.1, pc t x.2)) hl (by rw [D5o, ho]; rfl)
theorem A4b {g : PG} {b nx : Nat} {H : Heap} {ts : List T} {e : Int} (hl : Abs.look H b = some (pr t i)) (hb : b < nx) (ho : g i ts = some (.error e)) :
  eP t g (.ptr b 0 :: ts.map .t) H nx = some (errC e) := E0a (cs := pc t i) hl hb (by rw [D5o, ho]; rfl)
theorem E0b (ht : IsS eTok t l) (hi : l.length <= i) : PM Tryz.prog (G q) t 55 i [] (.error 9) := by
 have hlen : A2f (.t t) = some (.t (iv (l.length : Int))) := ht.len
 have hi1 : ((l.length : Int) <= (i : Int)) := by omega
 refine A7f.callO rfl ?_
 have ctx : Ctx Tryz.prog (G q) (orh [] []) := A0z.nil.ctxH .nil mixed
 refine A0l ctx (A5z.ok .nil) rfl ?_
 simp -implicitDefEqProofs [A5a, ql0, ql1, lp1, lp3, hlen, hi, hi1, outP]
noncomputable def A2n (l : List Tok) : PG := fun i ts => match ts with
 | [] => some (match l[i]? with
  | none => .error 9
  | some x => .ok (.ag (eTok.enc x), i))
 | _ => none
theorem A7n (ht : IsS eTok t l) : ∀ i ts o, A2n l i ts = some o -> PM Tryz.prog (G q) t 55 i ts o := fun i ts o h => by
 unfold A2n at h
 split at h
 ·injection h with h
  subst h
  cases hx : l[i]? with
  | none => exact E0b ht (by simpa using hx)
  | some x => exact E3q ht hx
 ·cases h
noncomputable def gIs (l : List Tok) : PG := fun i ts => match ts with
 | [.v (.string s)] => some (.ok (bv (isSy (l.map kt) i s.data.toList), i))
 | _ => none
theorem C9m (ht : IsS eTok t l) : ∀ i ts o, gIs l i ts = some o -> PM Tryz.prog (G q) t 86 i ts o := fun i ts o h => by
 unfold gIs at h
 split at h
 ·injection h with h
  subst h
  exact is_ok ht _
 ·cases h
variable {q : Gl} {t : T} {l : List Tok} {i : Nat}
theorem xl0 (k v : Int) (s : List UInt8) (R : Heap) : A0s false 1 ((1, tkr k s v) :: R) (.ptr 1 0) = some (.t (iv k)) := rfl
theorem xl1 (k v : Int) (s : List UInt8) (R : Heap) : A0s false 1 ((1, tkr k s v) :: R) (.ptr 1 1) = some (.t (sv (bs s))) := rfl
def resP {α : Type} (f : α -> T) : Except Int (α × Nat) -> Except Int (T × Nat)
 | .ok (x, i) => .ok (f x, i)
 | .error e => .error e
noncomputable def ctP (l : List Tok) (t : T) : HTbl := [(55, hP t (A2n l)), (86, hP t (gIs l))]
noncomputable def D2h (l : List Tok) (t : T) : ETbl := [(55, eP t (A2n l)), (86, eP t (gIs l))]
theorem ctxP (ht : IsS eTok t l) : Ctx Tryz.prog (G q) (orh [] (ctP l t)) := A0z.nil.ctxH (.cons (A1y (A7n ht)).hok (.cons (A1y (C9m ht)).hok .nil)) mixed
theorem panP (ht : IsS eTok t l) : POK Tryz.prog (G q) (orE (D2h l t)) := A5z.ok (.cons (A1y (A7n ht)).eok (.cons (A1y (C9m ht)).eok .nil))
theorem C4r : (l.map kt)[i]? = (l[i]?).map kt := List.getElem?_map ..
theorem E3r (ht : IsS eTok t l) (k : Int) (hi : i < 4611686018427387904) : PM Tryz.prog (G q) t 82 i [iv k] (resP sv (A2u (l.map kt) i k)) := by
 cases hx : l[i]? with
 | none =>
  have e1 : A2u (l.map kt) i k = .error 9 := by unfold A2u; rw [C4r, hx]; rfl
  rw [e1]
  refine A5b.callO rfl ?_
  refine A0l (ctxP ht) (panP ht) rfl ?_
  have h1 : ∀ R : Heap, eP t (A2n l) [.ptr 0 0] ((0, pr t i) :: R) 1 = some (errC 9) := fun R => A4b (ts := []) rfl (by omega) (by simp [A2n, hx])
  simp -implicitDefEqProofs [A3o, D2h, ctP, h1, resP, outP]
 | some x =>
  have h1 : hP t (A2n l) [.ptr 0 0] [(0, pr t i)] 1 = some (.t (.ag (eTok.enc x)), [(0, pr t i)], 1) := A3g (ts := []) rfl (by omega) (by simp [A2n, hx])
  have h2 : eP t (A2n l) [.ptr 0 0] [(0, pr t i)] 1 = none := A3i (ts := []) (x := (.ag (eTok.enc x), i)) rfl (by simp [A2n, hx])
  by_cases hk : x.k = k
  ·have e1 : A2u (l.map kt) i k = .ok (bs x.t, i + 1) := by unfold A2u; rw [C4r, hx]; simp [hk]
   rw [e1]
   have hkn : (x.k != k) = false := by simpa using hk
   have e2 : IntKind.i64.wrap ((i : Int) + 1) = ((i + 1 : Nat) : Int) := A1a (by omega) (by omega)
   refine PM.ret (H' := [(1, .cells 44 [.t (iv x.k), .t (sv (bs x.t)), .t (iv (x.l : Int))]), (0, pr t (i + 1))]) (nx' := 2) ?_ rfl
   refine A5b.callP rfl ?_
   refine A0c (ctxP ht) ?_
   simp -implicitDefEqProofs [A3o, ctP, h1, hkn, e2, eTok, sto3, xl0, xl1, ql1, qw1]
   exact ⟨.inr rfl, _, _, Sub.refl _, rfl, rfl, rfl, rfl⟩
  ·have e1 : A2u (l.map kt) i k = .error 8 := by unfold A2u; rw [C4r, hx]; simp [hk]
   have hkn : (x.k != k) = true := by simpa using hk
   rw [e1]
   refine A5b.callO rfl ?_
   refine A0l (ctxP ht) (panP ht) rfl ?_
   simp -implicitDefEqProofs [A3o, D2h, ctP, h1, h2, hkn, resP, outP, eTok, sto3, xl0, xl1]
theorem D5p (H : Heap) (hl : Abs.look H 0 = some (pr t i)) {nx : Nat} (hb : 0 < nx) (s : ByteArray) : hP t (gIs l) [.ptr 0 0, .t (sv s)] H nx = some (.t (bv (isSy (l.map kt) i s.data.toList)), upd H 0 (pr t i), nx) :=
 A3g (ts := [sv s]) hl hb rfl
theorem D5q (H : Heap) (hl : Abs.look H 0 = some (pr t i)) {nx : Nat} (s : ByteArray) : eP t (gIs l) [.ptr 0 0, .t (sv s)] H nx = none :=
 A3i (ts := [sv s]) (x := (bv (isSy (l.map kt) i s.data.toList), i)) hl rfl
def skR : Except Int Nat -> Except Int (T × Nat)
 | .ok p => .ok (.tu [], p)
 | .error e => .error e
theorem E3s (ht : IsS eTok t l) (s : ByteArray) (hi : i < 4611686018427387904) : PM Tryz.prog (G q) t 115 i [sv s] (skR (A3v (l.map kt) i s.data.toList)) := by
 cases hx : l[i]? with
 | none =>
  have hge : l.length <= i := by simpa using hx
  have e1 : A3v (l.map kt) i s.data.toList = .error 9 := by unfold A3v; rw [if_pos (by simpa using hge)]
  rw [e1]
  refine A5c.callO rfl ?_
  refine A0l (ctxP ht) (panP ht) rfl ?_
  have h1 : eP t (A2n l) [.ptr 0 0] [(0, pr t i)] 1 = some (errC 9) := A4b (ts := []) rfl (by omega) (by simp [A2n, hx])
  simp -implicitDefEqProofs [A3p, D2h, ctP, h1, skR, outP]
 | some x =>
  have hlt : ¬ (l.map kt).length <= i := by have := (List.getElem?_eq_some_iff.1 hx).1; simpa using this
  have h1 : hP t (A2n l) [.ptr 0 0] [(0, pr t i)] 1 = some (.t (.ag (eTok.enc x)), [(0, pr t i)], 1) := A3g (ts := []) rfl (by omega) (by simp [A2n, hx])
  have h2 : eP t (A2n l) [.ptr 0 0] [(0, pr t i)] 1 = none := A3i (ts := []) (x := (.ag (eTok.enc x), i)) rfl (by simp [A2n, hx])
  have h3 := D5p (l := l) [(0, pr t i)] rfl (nx := 1) (by omega) s
  have h4 := D5q (l := l) [(0, pr t i)] rfl (nx := 1) s
  cases hs : isSy (l.map kt) i s.data.toList with
  | true =>
   have e1 : A3v (l.map kt) i s.data.toList = .ok (i + 1) := by unfold A3v; rw [if_neg hlt, hs]; rfl
   have e2 : IntKind.i64.wrap ((i : Int) + 1) = ((i + 1 : Nat) : Int) := A1a (by omega) (by omega)
   rw [e1]
   rw [hs] at h3
   refine PM.ret (H' := [(0, pr t (i + 1))]) (nx' := 1) ?_ rfl
   refine A5c.callP rfl ?_
   refine A0c (ctxP ht) ?_
   simp -implicitDefEqProofs [A3p, ctP, h1, h3, e2, pl1, pw1]
   exact ⟨.inl rfl, _, _, Sub.refl _, rfl, rfl, rfl, rfl⟩
  | false =>
   have e1 : A3v (l.map kt) i s.data.toList = .error 8 := by unfold A3v; rw [if_neg hlt, hs]; rfl
   rw [e1]
   rw [hs] at h3
   refine A5c.callO rfl ?_
   refine A0l (ctxP ht) (panP ht) rfl ?_
   simp -implicitDefEqProofs [A3p, D2h, ctP, h1, h2, h3, h4, skR, outP]
def B4d (b : Bool) (n most : Int) (i : Nat) : Except Int (T × Nat) := if b then (if most <= n then .error 7 else .ok (bv true, i + 1)) else .ok (bv false, i)
theorem E3t (ht : IsS eTok t l) (s : ByteArray) (n most : Int) (hi : i < 4611686018427387904) : PM Tryz.prog (G q) t 57 i [sv s, iv n, iv most] (B4d (isSy (l.map kt) i s.data.toList) n most i) := by
 have h3 := D5p (l := l) [(0, pr t i)] rfl (nx := 1) (by omega) s
 have h4 := D5q (l := l) [(0, pr t i)] rfl (nx := 1) s
 cases hs : isSy (l.map kt) i s.data.toList with
 | false =>
  rw [hs] at h3
  refine PM.ret (H' := [(0, pr t i)]) (nx' := 1) ?_ rfl
  refine A5d.callP rfl ?_
  refine A0c (ctxP ht) ?_
  simp -implicitDefEqProofs [A3q, ctP, h3]
  exact ⟨.inr rfl, _, _, Sub.refl _, rfl, rfl, rfl, rfl⟩
 | true =>
  rw [hs] at h3
  unfold B4d
  rw [if_pos rfl]
  by_cases hm : most <= n
  ·rw [if_pos hm]
   refine A5d.callO rfl ?_
   refine A0l (ctxP ht) (panP ht) rfl ?_
   simp -implicitDefEqProofs [A3q, D2h, ctP, h3, h4, hm, outP]
  ·rw [if_neg hm]
   have e2 : IntKind.i64.wrap ((i : Int) + 1) = ((i + 1 : Nat) : Int) := A1a (by omega) (by omega)
   refine PM.ret (H' := [(0, pr t (i + 1))]) (nx' := 1) ?_ rfl
   refine A5d.callP rfl ?_
   refine A0c (ctxP ht) ?_
   simp -implicitDefEqProofs [A3q, ctP, h3, hm, e2, pl1, pw1]
   exact ⟨.inr rfl, _, _, Sub.refl _, rfl, rfl, rfl, rfl⟩
noncomputable def B8o (l : List Tok) : PG := fun i ts => match ts with
 | [.v (.int .i64 k)] => if i < 4611686018427387904 then some (resP sv (A2u (l.map kt) i k)) else none
 | _ => none
theorem B5n (ht : IsS eTok t l) : ∀ i ts o, B8o l i ts = some o -> PM Tryz.prog (G q) t 82 i ts o := fun i ts o h => by
 unfold B8o at h
 split at h
 ·split at h
  ·injection h with h
   subst h
   exact E3r ht _ (by assumption)
  ·cases h
 ·cases h
noncomputable def B2w (l : List Tok) : PG := fun i ts => match ts with
 | [.v (.string s)] => if i < 4611686018427387904 then some (skR (A3v (l.map kt) i s.data.toList)) else none
 | _ => none
theorem B5o (ht : IsS eTok t l) : ∀ i ts o, B2w l i ts = some o -> PM Tryz.prog (G q) t 115 i ts o := fun i ts o h => by
 unfold B2w at h
 split at h
 ·split at h
  ·injection h with h
   subst h
   exact E3s ht _ (by assumption)
  ·cases h
 ·cases h
noncomputable def A4e (l : List Tok) : PG := fun i ts => match ts with
 | [.v (.string s), .v (.int .i64 n), .v (.int .i64 m)] => if i < 4611686018427387904 then some (B4d (isSy (l.map kt) i s.data.toList) n m i) else none
 | _ => none
theorem A7o (ht : IsS eTok t l) : ∀ i ts o, A4e l i ts = some o -> PM Tryz.prog (G q) t 57 i ts o := fun i ts o h => by
 unfold A4e at h
 split at h
 ·split at h
  ·injection h with h
   subst h
   exact E3t ht _ _ _ (by assumption)
  ·cases h
 ·cases h
section
variable {l : List KT} {rec : Nat -> Res Ds}
def Fwd (l : List KT) (rec : Nat -> Res Ds) : Prop := ∀ p d p', rec p = .ok (d, p') -> p < p' /\ p' <= l.length
theorem A7p {p p' : Nat} {k : Int} {s : ByteArray} (h : A2u l p k = .ok (s, p')) : p' = p + 1 /\ p < l.length := by
 unfold A2u at h
 split at h
 ·cases h
 ·rename_i t ht
  have := (List.getElem?_eq_some_iff.1 ht).1
  split at h
  ·injection h with h; injection h with _ h; exact ⟨h.symm, this⟩
  ·cases h
theorem C1q {p p' : Nat} {s : List UInt8} (h : A3v l p s = .ok p') : p' = p + 1 /\ p < l.length := by
 unfold A3v at h
 split at h
 ·cases h
 ·split at h
  ·injection h with h; exact ⟨h.symm, by omega⟩
  ·cases h
theorem A1q {p : Nat} {s : List UInt8} (h : isSy l p s = true) : p < l.length := by
 unfold isSy at h
 split at h
 ·rename_i t ht; exact (List.getElem?_eq_some_iff.1 ht).1
 ·cases h
theorem C1r : ∀ (f p : Nat) (path path' : List ByteArray) (p' : Nat), B1g l f p path = .ok (path', p') -> path.length <= 64 -> p <= p' /\ (p <= l.length -> p' <= l.length) /\ path.length <= path'.length /\ path'.length <= 64
 | 0, p, path, path', p', h, _ => by cases h
 | f + 1, p, path, path', p', h, hl => by
  rw [B1g] at h
  split at h
  ·split at h
   ·cases h
   ·split at h
    ·cases h
    ·rename_i s p1 h1
     obtain ⟨e1, h2⟩ := A7p h1
     have ih := C1r f _ _ _ _ h (by simp; omega)
     simp only [List.length_append, List.length_singleton] at ih
     omega
  ·injection h with h; injection h with e1 e2; subst e1; subst e2
   exact ⟨Nat.le_refl _, fun h => h, Nat.le_refl _, hl⟩
theorem C1s (hr : Fwd l rec) {p p' : Nat} {d : Ds} (h : A7x l rec p = .ok (d, p')) : p < p' /\ p' <= l.length := by
 unfold A7x at h
 split at h
 ·cases h
 ·rename_i s p1 h1
  obtain ⟨e1, h2⟩ := A7p h1
  split at h
  ·cases h
  ·rename_i path p2 h3
   have h4 := C1r _ _ _ _ _ h3 (by simp)
   split at h
   ·cases h
   ·rename_i d' p3 h5
    have h6 := hr _ _ _ h5
    injection h with h; injection h with _ e
    omega
theorem C4s (hr : Fwd l rec) : ∀ (f p : Nat) (parts parts' : List Ds) (p' : Nat), brS l rec f p parts = .ok (parts', p') -> p < p' /\ p' <= l.length /\ parts.length < parts'.length /\ (parts.length <= 255 -> parts'.length <= 256)
 | 0, p, parts, parts', p', h => by cases h
 | f + 1, p, parts, parts', p', h => by
  rw [brS] at h
  split at h
  ·cases h
  ·rename_i d p1 h1
   have h2 := C1s hr h1
   split at h
   ·split at h
    ·cases h
    ·have ih := C4s hr f _ _ _ _ h
     simp only [List.length_append, List.length_singleton] at ih
     omega
   ·split at h
    ·cases h
    ·rename_i p2 h3
     have h4 := C1q h3
     injection h with h; injection h with e1 e2; subst e1; subst e2
     simp only [List.length_append, List.length_singleton]
     omega
theorem C9n (hr : Fwd l rec) : ∀ (f p : Nat) (kids kids' : List Ds) (p' : Nat), itS l rec f p kids = .ok (kids', p') -> kids.length <= 256 -> p <= p' /\ (p <= l.length -> p' <= l.length) /\ kids.length <= kids'.length /\ kids'.length <= 256
 | 0, p, kids, kids', p', h, _ => by cases h
 | f + 1, p, kids, kids', p', h, hl => by
  rw [itS] at h
  split at h
  ·split at h
   ·cases h
   ·split at h
    ·cases h
    ·rename_i d p1 h1
     have h2 := hr _ _ _ h1
     have ih := C9n hr f _ _ _ _ h (by simp; omega)
     simp only [List.length_append, List.length_singleton] at ih
     omega
  ·injection h with h; injection h with e1 e2; subst e1; subst e2
   exact ⟨Nat.le_refl _, fun h => h, Nat.le_refl _, hl⟩
theorem A8k {s : List UInt8} {op : Int} {kids : List Ds} {p p' : Nat} {d : Ds} (h : A2x l s op kids p = .ok (d, p')) : p' = p + 1 /\ p < l.length := by
 unfold A2x at h
 split at h
 ·cases h
 ·rename_i p1 h1
  injection h with h; injection h with _ e
  have := C1q h1
  omega
theorem D5r (hr : Fwd l rec) {p p' : Nat} {d : Ds} (h : lstS l rec p = .ok (d, p')) : p < p' /\ p' <= l.length := by
 unfold lstS at h
 split at h
 ·cases h
 ·split at h
  ·have := A8k h; omega
  ·split at h
   ·cases h
   ·rename_i d1 p1 h1
    have h2 := hr _ _ _ h1
    split at h
    ·cases h
    ·rename_i kids p2 h3
     have h4 := C9n hr _ _ _ _ _ h3 (by simp)
     split at h
     ·split at h
      ·cases h
      ·split at h
       ·cases h
       ·rename_i d3 p3 h5
        have h6 := hr _ _ _ h5
        have := A8k h
        omega
     ·have := A8k h
      omega
theorem D5s (hr : Fwd l rec) {p p' : Nat} {d : Ds} (h : dffS l rec p = .ok (d, p')) : p < p' /\ p' <= l.length := by
 unfold dffS at h
 split at h
 ·cases h
 ·split at h
  ·have := A8k h; omega
  ·split at h
   ·cases h
   ·rename_i d1 p1 h1
    have h2 := hr _ _ _ h1
    split at h
    ·cases h
    ·rename_i kids p2 h3
     have h4 := C9n hr _ _ _ _ _ h3 (by simp)
     have := A8k h
     omega
theorem B5p {parts parts' : List Ds} {p p' : Nat} {r : Res Ds} (hr : ∀ d p', r = .ok (d, p') -> p < p' /\ p' <= l.length) (h : A7y parts r = .ok (parts', p')) : p < p' /\ p' <= l.length /\ parts'.length = parts.length + 1 := by
 unfold A7y at h
 split at h
 ·cases h
 ·rename_i d p1
  injection h with h; injection h with e1 e2; subst e1; subst e2
  have := hr _ _ rfl
  exact ⟨this.1, this.2, by simp⟩
theorem C9o {op k : Int} {p p' : Nat} {d : Ds} (h : B2u op (A2u l p k) = .ok (d, p')) : p' = p + 1 /\ p < l.length := by
 unfold B2u at h
 split at h
 ·cases h
 ·rename_i s p1 h1
  injection h with h; injection h with _ e
  have := A7p h1
  omega
theorem A6m (hr : Fwd l rec) {p p' : Nat} {parts parts' : List Ds} (h : A6d l rec p parts = .ok (parts', p')) : p < p' /\ p' <= l.length /\ parts.length < parts'.length /\ (parts.length <= 255 -> parts'.length <= 256) := by
 unfold A6d at h
 split at h
 ·cases h
 ·rename_i t ht
  have hp := (List.getElem?_eq_some_iff.1 ht).1
  split at h
  ·injection h with h; injection h with e1 e2; subst e1; subst e2
   simp only [List.length_append, List.length_singleton]
   omega
  ·split at h
   ·cases h
   ·split at h
    ·have := B5p (l := l) (p := p + 1) (fun d p' h => by have := C9o h; omega) h; omega
    ·split at h
     ·have := B5p (l := l) (p := p + 1) (fun d p' h => by have := C9o h; omega) h; omega
     ·split at h
      ·have := C4s hr _ _ _ _ _ h; omega
      ·split at h
       ·have := B5p (l := l) (p := p + 1) (fun d p' h => D5r hr h) h; omega
       ·split at h
        ·have := B5p (l := l) (p := p + 1) (fun d p' h => D5s hr h) h; omega
        ·cases h
theorem C7d (hr : Fwd l rec) : ∀ (f p : Nat) (parts parts' : List Ds) (p' : Nat), andS l rec f p parts = .ok (parts', p') -> parts.length <= 256 -> p <= p' /\ (p <= l.length -> p' <= l.length) /\ parts.length <= parts'.length /\ parts'.length <= 256
 | 0, p, parts, parts', p', h, _ => by cases h
 | f + 1, p, parts, parts', p', h, hl => by
  rw [andS] at h
  split at h
  ·split at h
   ·cases h
   ·split at h
    ·cases h
    ·rename_i parts1 p1 h1
     have h2 := A6m hr h1
     have ih := C7d hr f _ _ _ _ h (by omega)
     omega
  ·injection h with h; injection h with e1 e2; subst e1; subst e2
   exact ⟨Nat.le_refl _, fun h => h, Nat.le_refl _, hl⟩
theorem A5g : ∀ n, Fwd l (desS l n)
 | 0 => fun p d p' h => by
  rw [desS] at h
  split at h <;> cases h
 | n + 1 => fun p d p' h => by
  rw [desS] at h
  split at h
  ·cases h
  ·split at h
   ·cases h
   ·rename_i parts p1 h1
    have h2 := A6m (A5g n) h1
    split at h
    ·cases h
    ·rename_i parts' p2 h3
     have h4 := C7d (A5g n) _ _ _ _ _ h3 (h2.2.2.2 (by simp))
     injection h with h; injection h with _ e
     omega
end
end Go.Proofs.YtjkkgbdoeaihmaaGreatDoor
namespace Go.Abs
set_option linter.unusedSimpArgs false
set_option linter.unusedVariables false
open Go
def isHc : MK -> Bool
 | .hcall _ => true
 | _ => false
@[simp] theorem isHc_mv : isHc .mv = false := rfl
@[simp] theorem isHc_faddr (n : Nat) : isHc (.faddr n) = false := rfl
@[simp] theorem isHc_load (b : Bool) (n : Nat) : isHc (.load b n) = false := rfl
@[simp] theorem isHc_bin (b : Bool) (op : BinOp) (nk : Option NK) : isHc (.bin b op nk) = false := rfl
@[simp] theorem isHc_tslice (e n : Nat) (zc : List Value) (len : Nat) (idx : List Nat) : isHc (.tslice e n zc len idx) = false := rfl
@[simp] theorem isHc_app (e n b : Nat) : isHc (.app e n b) = false := rfl
@[simp] theorem isHc_store (n : Nat) : isHc (.store n) = false := rfl
section
variable {α : Type} {P : Program} {G : A0t} {B : Nat}
theorem C0c (H : Heap) (F : List Nat) (x : T) : frzP H F (.t x) = .t x := rfl
theorem E0c (H : Heap) (F : List Nat) (ty : TypeId) (cs : List T) : A7c H F (.cells ty (cs.map .t)) = .cells ty (cs.map .t) := by
 simp only [A7c, List.map_map]
 rfl
theorem D5t (σ : Nat -> Nat) : ∀ cs : List T, renL σ (cs.map .t) = cs.map .t
 | [] => rfl
 | c :: cs => by simp only [List.map_cons, renL, D5t σ cs, ren]
theorem B2x (n : Nat) : ∀ cs : List T, A0x n (cs.map .t) = true
 | [] => rfl
 | c :: cs => by simp only [List.map_cons, A0x, B2x n cs, under, Bool.and_self]
theorem C4t {e : Enc α} {ty ty0 b k nx n : Nat} {l : List α} {env : List (Nat × PV)} {H : Heap} {cs : List T} (h : A0n e ty H b l) (hb0 : b ≠ 0) (h0 : look H 0 = some (.cells ty0 (cs.map .t)))
  (hk : look env k = some (rowP e b l)) (hB : B <= 1) : Sub P G B ⟨env, H, nx, n⟩ ⟨[(k, .t (A2h e l))], [(0, .cells ty0 (cs.map .t))], 1, n⟩ := by
 have h1 : Sub P G B ⟨env, H, nx, n⟩ (A0b.frz ⟨env, H, nx, n⟩ [b]) := B6j [b]
 refine h1.trans ?_
 refine A7s (fun x => x) rfl hB (fun _ _ => rfl) (fun q hq => ?_) (fun q hq => ?_) (fun _ _ _ _ e => e)
 ·simp only [List.mem_singleton] at hq
  subst hq
  refine ⟨?_, rfl⟩
  simp only [A0b.frz, A4x, hk, Option.map_some, ren]
  unfold frzP
  rw [h.toT]
  have : (B8l b l).all ([b].contains ·) = true := by cases l <;> simp [B8l]
  simp only [this, if_true]
 ·simp only [List.mem_singleton] at hq
  subst hq
  refine ⟨?_, by show 0 < 1; omega, B2x _ _⟩
  simp only [A0b.frz, A4x]
  rw [show look (remAll H [b]) 0 = look H 0 by simp only [remAll, List.foldl_cons, List.foldl_nil]; rw [A1s, if_neg (Ne.symm hb0)], h0, Option.map_some, E0c]
  simp only [A0v, D5t]
end
section
variable {Φ : A0u} {E : Pans} {env : List (Nat × PV)} {H : Heap} {nx n j : Nat} {K : A0b -> Prop} {X : A2m -> Prop} {d : Option Nat} {k : MK} {xs : List Opd} {gr : List GI} {pd : Pend} {kp : Bool} {ag : List Nat}
@[simp] theorem runsGE_nil {s : A0b} : A7m Φ E j pd [] s K X = K s := rfl
@[simp] theorem runsGE_quiet (hk : A0h k = true) (hc : isHc k = false) : A7m Φ E j pd (.o ⟨d, k, xs, none⟩ kp ag :: gr) ⟨env, H, nx, n⟩ K X =
  A1x (A1z Φ H nx k (xs.map (·.ev env))) fun v => A7d Φ pd H nx ag (A7m Φ E (j + 1) (B5c kp j ⟨d, k, xs, none⟩ ⟨env, H, nx, n⟩ v pd) gr (A0b.set ⟨env, H, nx, n⟩ d (v, H, nx)) K X) := by
 have hp : panM E ⟨env, H, nx, n⟩ ⟨d, k, xs, none⟩ = none := by
  unfold panM
  split
  ·rename_i f e; simp only at e; subst e; cases hc
  ·rfl
 simp only [A7m, hp, onPan_none, valD, hk, if_true, valQ, Mini.wants, ifSome_map]
@[simp] theorem runsGE_heavy (hk : A0h k = false) (hc : isHc k = false) : A7m Φ E j pd (.o ⟨d, k, xs, none⟩ kp ag :: gr) ⟨env, H, nx, n⟩ K X =
  A1x (A0d Φ H nx k (xs.map (·.ev env))) fun q => A7d Φ pd q.2.1 q.2.2 ag (A7m Φ E (j + 1) (B5c kp j ⟨d, k, xs, none⟩ ⟨env, H, nx, n⟩ q.1 pd) gr (A0b.set ⟨env, H, nx, n⟩ d q) K X) := by
 have hp : panM E ⟨env, H, nx, n⟩ ⟨d, k, xs, none⟩ = none := by
  unfold panM
  split
  ·rename_i f e; simp only at e; subst e; cases hc
  ·rfl
 simp only [A7m, hp, onPan_none, valD, hk, Bool.false_eq_true, if_false, Mini.wants]
@[simp] theorem runsGE_hcall {f : Nat} : A7m Φ E j pd (.o ⟨d, .hcall f, xs, none⟩ kp ag :: gr) ⟨env, H, nx, n⟩ K X =
  C7b (E f (xs.map (·.ev env)) H nx) X (A1x (A0d Φ H nx (.hcall f) (xs.map (·.ev env))) fun q => A7d Φ pd q.2.1 q.2.2 ag (A7m Φ E (j + 1) (B5c kp j ⟨d, .hcall f, xs, none⟩ ⟨env, H, nx, n⟩ q.1 pd) gr (A0b.set ⟨env, H, nx, n⟩ d q) K X)) := by
 have hq : A0h (.hcall f) = false := rfl
 simp only [A7m, panM, valD, hq, Bool.false_eq_true, if_false, Mini.wants]
end
end Go.Abs
namespace Go.Proofs.YtjkkgbdoeaihmaaGreatDoor
set_option linter.unusedSimpArgs false
set_option linter.unusedVariables false
open Go Go.Abs
variable {q : Gl} {t : T} {l : List Tok} {i : Nat}
abbrev dT (d : Ds) : T := .ag (encD d)
theorem bsD (d : Ds) (b : Nat) : A6b 25 4 [.int .i64 0, .string ⟨#[]⟩, .slice none 0 0, .slice none 0 0] 1 [(0, .t (dT d))] b = some (.row b 0 1 4, .cells 25 ((encD d).map .t)) := by
 cases d
 rw [dT, encD]
 rfl
noncomputable def gDes (l : List Tok) (n : Nat) : PG := fun i ts => match ts with
 | [.v (.int .i64 v)] => if v = 65 - (n : Int) /\ i <= l.length then some (resP dT (desS (l.map kt) n i)) else none
 | _ => none
theorem C1t {n : Nat} (hi : i <= l.length) : gDes l n i [iv (65 - (n : Int))] = some (resP dT (desS (l.map kt) n i)) := if_pos ⟨rfl, hi⟩
abbrev A9f (q : Gl) (t : T) (l : List Tok) (n : Nat) : Prop := ∀ i ts o, gDes l n i ts = some o -> PM Tryz.prog (G q) t 34 i ts o
def A3x (L : List KT) (n i : Nat) : Res (List Ds) := match desS L n i with
 | .error e => .error e
 | .ok (d, p) => itS L (desS L n) (L.length + 1) p [d]
noncomputable def ctI (l : List Tok) (t : T) (n : Nat) : HTbl := [(57, hP t (A4e l)), (34, hP t (gDes l n))]
noncomputable def ceI (l : List Tok) (t : T) (n : Nat) : ETbl := [(57, eP t (A4e l)), (34, eP t (gDes l n))]
theorem ctxI (ht : IsS eTok t l) {n : Nat} (hD : A9f q t l n) : Ctx Tryz.prog (G q) (orh [] (ctI l t n)) := A0z.nil.ctxH (.cons (A1y (A7o ht)).hok (.cons (A1y hD).hok .nil)) mixed
theorem panI (ht : IsS eTok t l) {n : Nat} (hD : A9f q t l n) : POK Tryz.prog (G q) (orE (ceI l t n)) := A5z.ok (.cons (A1y (A7o ht)).eok (.cons (A1y hD).eok .nil))
structure It where
 f : Nat
 p : Nat
 kids : List Ds
def SIt (t : T) (v : Int) (a : It) : A0b := ⟨[(5, rowP eD 1 a.kids), (1, .t (iv v)), (0, .ptr 0 0)], [(0, pr t a.p)] ++ rowH eD 25 1 a.kids, 2, 23⟩
structure OkIt (L : List KT) (n : Nat) (R : Res (List Ds)) (a : It) : Prop where
 le : a.p <= L.length
 fu : L.length - a.p < a.f
 kl : a.kids.length <= 1000
 eq : itS L (desS L n) a.f a.p a.kids = R
def outI (t : T) (b : Bool) : Res (List Ds) -> Out
 | .error e => .pan (errC e)
 | .ok (kids, p) => bif b then .ret (rowP eD 1 kids) ([(0, pr t p)] ++ rowH eD 25 1 kids) 2 else .ret (.t (A2h eD kids)) [(0, pr t p)] 1
theorem C0d (rows : Bool) (ht : IsS eTok t l) (hlim : l.length <= 1000000) {n : Nat} (hD : A9f q t l n) (hF : Fwd (l.map kt) (desS (l.map kt) n)) (hn : n <= 64) (hi : i <= l.length) :
  B7f Tryz.prog (G q) 116 [.ptr 0 0, .t (iv (64 - (n : Int)))] [(0, pr t i)] 1 (outI t rows (A3x (l.map kt) n i)) := by
 obtain ⟨L, hL⟩ : ∃ L, L = l.map kt := ⟨_, rfl⟩
 have hLl : L.length = l.length := by rw [hL, List.length_map]
 rw [<- hL] at hF
 rw [<- hL]
 have ev : IntKind.i64.wrap (64 - (n : Int) + 1) = 65 - (n : Int) := by
  rw [A4h (by omega) (by omega)]; omega
 have gd : ∀ {p : Nat}, p <= l.length -> gDes l n p [iv (65 - (n : Int))] = some (resP dT (desS L n p)) := fun hp => by rw [C1t hp, hL]
 refine B0x.callO rfl ?_
 unfold A6u
 refine A0k (ctxI ht hD) (panI ht hD) rfl ?_
 simp -implicitDefEqProofs
 refine A0k (ctxI ht hD) (panI ht hD) rfl ?_
 cases hd : desS L n i with
 | error e =>
  have e1 : A3x L n i = .error e := by unfold A3x; rw [hd]
  rw [e1]
  have h1 : eP t (gDes l n) [.ptr 0 0, .t (iv (65 - (n : Int)))] [(0, pr t i)] 1 = some (errC e) := A4b (ts := [iv (65 - (n : Int))]) rfl (by omega) (by rw [gd hi, hd]; rfl)
  simp -implicitDefEqProofs [ctI, ceI, ev, h1, outI]
 | ok x =>
  obtain ⟨d, p0⟩ := x
  have hf0 := hF i d p0 hd
  rw [hLl] at hf0
  obtain ⟨R, hR⟩ : ∃ R, R = itS L (desS L n) (L.length + 1) p0 [d] := ⟨_, rfl⟩
  have e1 : A3x L n i = R := by unfold A3x; rw [hd]; exact hR.symm
  rw [e1]
  have h1 : hP t (gDes l n) [.ptr 0 0, .t (iv (65 - (n : Int)))] [(0, pr t i)] 1 = some (.t (dT d), [(0, pr t p0)], 1) := A3g (ts := [iv (65 - (n : Int))]) rfl (by omega) (by rw [gd hi, hd]; rfl)
  have h2 : eP t (gDes l n) [.ptr 0 0, .t (iv (65 - (n : Int)))] [(0, pr t i)] 1 = none := A3i (ts := [iv (65 - (n : Int))]) (x := (dT d, p0)) rfl (by rw [gd hi, hd]; rfl)
  simp -implicitDefEqProofs [ctI, ceI, ev, h1, h2, bsD]
  refine A2g (α := It) (SIt t (64 - (n : Int))) (fun a => R = .ok (a.kids, a.p)) (fun _ => rfl) ?_ ?_
  ·refine A0w ?_
   refine A1l (SIt t (64 - (n : Int))) (fun a => a.f) (OkIt L n R) ⟨L.length + 1, p0, [d]⟩ (fun _ => rfl) ⟨by show p0 <= _; omega, by show L.length - p0 < L.length + 1; omega, by simp, hR.symm⟩ ?_ rfl ?_
   ·exact A2k (k := 1) (.inr (by simp [A3h, Abs.look, eD])) (by omega) (by omega) (by simp -implicitDefEqProofs [A0v, renL, ren, A0m, A0x, under]) (by simp -implicitDefEqProofs [rowP, ren, under, eD])
   ·rintro ⟨f, p, kids⟩ ⟨hp, hfu, hkl, heq⟩
    simp only at hp hfu hkl heq
    rw [hLl] at hp hfu
    obtain ⟨f', rfl⟩ : ∃ f', f = f' + 1 := ⟨f - 1, by omega⟩
    rw [itS] at heq
    obtain ⟨H0, hH0⟩ : ∃ H0, H0 = [(0, pr t p)] ++ rowH eD 25 1 kids := ⟨_, rfl⟩
    have hu0 : ∀ p', upd H0 0 (pr t p') = [(0, pr t p')] ++ rowH eD 25 1 kids := fun p' => by rw [hH0]; simp [upd]
    have hl0 : Abs.look H0 0 = some (pr t p) := by rw [hH0]; rfl
    have hlen : A2f (rowP eD 1 kids) = some (.t (iv (kids.length : Int))) := A7k eD 1 kids
    have gm : A4e l p [sv ⟨#[44]⟩, iv (kids.length : Int), iv 256] = some (B4d (isSy L p [44]) (kids.length : Int) 256 p) := by rw [hL]; exact if_pos (by omega)
    cases hs : isSy L p [44] with
    | false =>
     rw [hs] at gm
     rw [hs] at heq
     simp only [Bool.false_eq_true, if_false] at heq
     have m1 := A3g (t := t) (g := A4e l) (b := 0) (nx := 2) (H := H0) hl0 (by omega) (gm.trans rfl : _ = some (.ok (bv false, p)))
     have m2 := A3i (t := t) (g := A4e l) (b := 0) (nx := 2) (H := H0) hl0 (gm.trans rfl : _ = some (.ok (bv false, p)))
     rw [hu0] at m1
     rw [hH0] at m1 m2
     simp only [List.map_cons, List.map_nil, List.cons_append, List.nil_append] at m1 m2
     refine A0l (ctxI ht hD) (panI ht hD) rfl ?_
     simp -implicitDefEqProofs [SIt, ctI, ceI, hlen, m1, m2]
     refine Abs.Next.mk ⟨f', p, kids⟩ heq.symm ?_
     exact A2k (k := 1) ((A0n.head' eD 25 1 kids).cons (by omega)) (by omega) (by omega) (by simp -implicitDefEqProofs [A0v, renL, ren, A0m, A0x, under]) (by simp -implicitDefEqProofs [A1c, A0o, ren, under])
    | true =>
     rw [hs] at gm
     rw [hs] at heq
     simp only [if_true] at heq
     have hpl : p < l.length := by have := A1q hs; omega
     by_cases hbig : 256 <= kids.length
     ·rw [if_pos hbig] at heq
      have gm' : A4e l p [sv ⟨#[44]⟩, iv (kids.length : Int), iv 256] = some (.error 7) := by rw [gm, B4d, if_pos rfl, if_pos (by omega)]
      have m3 := A4b (t := t) (g := A4e l) (b := 0) (nx := 2) (H := H0) hl0 (by omega) gm'
      rw [hH0] at m3
      simp only [List.map_cons, List.map_nil, List.cons_append, List.nil_append] at m3
      refine A0l (ctxI ht hD) (panI ht hD) rfl ?_
      rw [<- heq]
      simp -implicitDefEqProofs [SIt, ctI, ceI, hlen, m3, outI]
     ·rw [if_neg hbig] at heq
      have gm' : A4e l p [sv ⟨#[44]⟩, iv (kids.length : Int), iv 256] = some (.ok (bv true, p + 1)) := by rw [gm, B4d, if_pos rfl, if_neg (by omega)]
      have m1 := A3g (t := t) (g := A4e l) (b := 0) (nx := 2) (H := H0) hl0 (by omega) gm'
      have m2 := A3i (t := t) (g := A4e l) (b := 0) (nx := 2) (H := H0) hl0 gm'
      rw [hu0] at m1
      rw [hH0] at m1 m2
      simp only [List.map_cons, List.map_nil, List.cons_append, List.nil_append] at m1 m2
      have hl1 : Abs.look ((0, pr t (p + 1)) :: rowH eD 25 1 kids) 0 = some (pr t (p + 1)) := rfl
      cases hd2 : desS L n (p + 1) with
      | error e =>
       rw [hd2] at heq
       simp only at heq
       have m3 := A4b (t := t) (g := gDes l n) (b := 0) (nx := 2) hl1 (by omega) (by rw [gd (by omega), hd2]; rfl)
       simp only [List.map_cons, List.map_nil] at m3
       refine A0l (ctxI ht hD) (panI ht hD) rfl ?_
       rw [<- heq]
       simp -implicitDefEqProofs [SIt, ctI, ceI, hlen, m1, m2, ev, m3, outI]
      | ok x =>
       obtain ⟨d2, p2⟩ := x
       rw [hd2] at heq
       simp only at heq
       have hf2 := hF _ _ _ hd2
       rw [hLl] at hf2
       have m3 := A3g (t := t) (g := gDes l n) (b := 0) (nx := 2) (r := dT d2) (i' := p2) hl1 (by omega) (by rw [gd (by omega), hd2]; rfl)
       have m4 := A3i (t := t) (g := gDes l n) (b := 0) (nx := 2) (x := (dT d2, p2)) hl1 (by rw [gd (by omega), hd2]; rfl)
       simp only [List.map_cons, List.map_nil] at m3 m4
       have hu1 : upd ((0, pr t (p + 1)) :: rowH eD 25 1 kids) 0 (pr t p2) = (0, pr t p2) :: rowH eD 25 1 kids := by simp [upd]
       rw [hu1] at m3
       have r0' : A0n eD 25 ((2, .cells 25 ((encD d2).map .t)) :: (0, pr t p2) :: rowH eD 25 1 kids) 1 kids := ((A0n.head' eD 25 1 kids).cons (k := 0) (by omega)).cons (k := 2) (by omega)
       obtain ⟨b2, H2, n2, ap2, r2, ne2, hle2, hold, hb2⟩ := A4j (e := eD) (ty := 25) (by' := 72) (nx := 3) (m := [d2]) r0' (A7w (e := eD) (b := 2) (ty := 25) d2 rfl) (by simp; omega) (by simp; omega)
       have ap2' : appM 25 4 72 ((2, .cells 25 ((encD d2).map .t)) :: (0, pr t p2) :: rowH eD 25 1 kids) 3 (rowP eD 1 kids) (.row 2 0 1 4) = some (rowP eD b2 (kids ++ [d2]), H2, n2) := ap2
       have hl2 : Abs.look H2 0 = some (pr t p2) := (hold 0 (by omega) (by omega)).trans rfl
       refine A0l (ctxI ht hD) (panI ht hD) rfl ?_
       simp -implicitDefEqProofs [SIt, ctI, ceI, hlen, m1, m2, ev, m3, m4, bsD, ap2']
       refine Abs.Next.mk ⟨f', p2, kids ++ [d2]⟩ ⟨⟨by show p2 <= _; omega, by show L.length - p2 < f'; omega, by simp; omega, heq⟩, by show f' < f' + 1; omega⟩ ?_
       exact A2k (k := b2) r2 (by omega) (by omega) (by simp -implicitDefEqProofs [A0v, renL, ren, A0m, A0x, under, hl2]; omega) (by simp -implicitDefEqProofs [A1c, A0o, ren, under])
  ·rintro ⟨f, p, kids⟩ hR2
   simp only at hR2
   rw [hR2]
   refine A0l (ctxI ht hD) (panI ht hD) rfl ?_
   simp -implicitDefEqProofs [SIt, outI]
   cases rows with
   | true => exact B2v (rs := [rowP eD 1 kids]) (.inr rfl) (Sub.refl _) rfl rfl rfl rfl
   | false =>
   exact B2v (rs := [.t (A2h eD kids)]) (.inr rfl) (C4t (k := 4) (b := 1) (l := kids) (cs := pc t p) ((A0n.head' eD 25 1 kids).cons (by omega)) (by omega) rfl (by simp -implicitDefEqProofs) (Nat.le_refl _)) (by simp -implicitDefEqProofs) rfl rfl rfl
theorem E0d (ht : IsS eTok t l) (hlim : l.length <= 1000000) {n : Nat} (hD : A9f q t l n) (hF : Fwd (l.map kt) (desS (l.map kt) n)) (hn : n <= 64) (hi : i <= l.length) :
  PM Tryz.prog (G q) t 116 i [iv (64 - (n : Int))] (resP (A2h eD) (A3x (l.map kt) n i)) := by
 have h := C0d (q := q) false ht hlim hD hF hn hi
 unfold PM
 cases hh : A3x (l.map kt) n i with
 | error e => rw [hh] at h; exact h
 | ok x => rw [hh] at h; exact h
theorem D5u (ht : IsS eTok t l) (hlim : l.length <= 1000000) {n : Nat} (hD : A9f q t l n) (hF : Fwd (l.map kt) (desS (l.map kt) n)) (hn : n <= 64) (hi : i <= l.length) {kids : List Ds} {p : Nat} (hs : A3x (l.map kt) n i = .ok (kids, p)) :
  A1d Tryz.prog (G q) 116 [.ptr 0 0, .t (iv (64 - (n : Int)))] [(0, pr t i)] 1 (rowP eD 1 kids) ([(0, pr t p)] ++ rowH eD 25 1 kids) 2 := by
 have h := C0d (q := q) true ht hlim hD hF hn hi
 rw [hs] at h
 exact h
variable {q : Gl} {t : T} {l : List Tok} {i : Nat}
section
variable (a b c d x : T) (y z u v : PV) (X : Row) (R H : Heap)
theorem sd2 : A1b 4 ((2, .cells 25 [y, z, u, v]) :: R) (.ptr 2 0) (.t (.ag [a, b, c, d])) = some ((2, .cells 25 [.t a, .t b, .t c, .t d]) :: R) := rfl
theorem ld4 : A0s true 4 ((2, .cells 25 [.t a, .t b, .t c, .t d]) :: R) (.ptr 2 0) = some (.t (.ag [a, b, c, d])) := rfl
theorem sd1 : A1b 4 ((2, X) :: (1, .cells 25 [y, z, u, v]) :: R) (.ptr 1 0) (.t (.ag [a, b, c, d])) = some ((2, X) :: (1, .cells 25 [.t a, .t b, .t c, .t d]) :: R) := rfl
theorem sd23 (kids : List Ds) : A1b 1 ((2, .cells 25 [.t a, .t b, .t c, .t d]) :: R) (.ptr 2 3) (.t (A2h eD kids)) = some ((2, .cells 25 [.t a, .t b, .t c, .t (A2h eD kids)]) :: R) := by cases kids <;> rfl
theorem bd1 {Φ : A0u} {nx : Nat} (k : Int) : A0d Φ H nx (.build [(0, 1), (1, 1), (2, 1), (3, 1)] [.int .i64 0, .string ⟨#[]⟩, .slice none 0 0, .slice none 0 0] [0]) [.t (iv k)] = some (.t (.ag [iv k, sv ⟨#[]⟩, nilS, nilS]), H, nx) := rfl
end
theorem C4u {L : List KT} {n i p : Nat} {kids : List Ds} (hF : Fwd L (desS L n)) (h : A3x L n i = .ok (kids, p)) : i < p /\ p <= L.length /\ kids.length <= 256 := by
 unfold A3x at h
 cases hd : desS L n i with
 | error e => rw [hd] at h; cases h
 | ok x =>
  obtain ⟨d, p0⟩ := x
  rw [hd] at h
  have h1 := hF i d p0 hd
  have h2 := C9n hF _ _ _ _ _ h (by simp)
  omega
noncomputable def A9e (l : List Tok) (n : Nat) : PG := fun i ts => match ts with
 | [.v (.int .i64 v)] => if v = 64 - (n : Int) /\ i <= l.length then some (resP (A2h eD) (A3x (l.map kt) n i)) else none
 | _ => none
theorem C4v {n : Nat} (hi : i <= l.length) : A9e l n i [iv (64 - (n : Int))] = some (resP (A2h eD) (A3x (l.map kt) n i)) := if_pos ⟨rfl, hi⟩
theorem C4w (ht : IsS eTok t l) (hlim : l.length <= 1000000) {n : Nat} (hD : A9f q t l n) (hF : Fwd (l.map kt) (desS (l.map kt) n)) (hn : n <= 64) :
  ∀ i ts o, A9e l n i ts = some o -> PM Tryz.prog (G q) t 116 i ts o := fun i ts o h => by
 unfold A9e at h
 split at h
 ·split at h
  ·rename_i hc
   obtain ⟨rfl, hi⟩ := hc
   injection h with h
   subst h
   exact E0d ht hlim hD hF hn hi
  ·cases h
 ·cases h
noncomputable def ctL (l : List Tok) (t : T) (n : Nat) : HTbl := [(55, hP t (A2n l)), (86, hP t (gIs l)), (115, hP t (B2w l)), (57, hP t (A4e l)), (116, hP t (A9e l n)), (34, hP t (gDes l n))]
noncomputable def ceL (l : List Tok) (t : T) (n : Nat) : ETbl := [(55, eP t (A2n l)), (86, eP t (gIs l)), (115, eP t (B2w l)), (57, eP t (A4e l)), (116, eP t (A9e l n)), (34, eP t (gDes l n))]
section
variable {n : Nat} (ht : IsS eTok t l) (hlim : l.length <= 1000000) (hD : A9f q t l n) (hF : Fwd (l.map kt) (desS (l.map kt) n)) (hn : n <= 64)
include ht hlim hD hF hn
theorem ctxL : Ctx Tryz.prog (G q) (orh [] (ctL l t n)) :=
 A0z.nil.ctxH (.cons (A1y (A7n ht)).hok (.cons (A1y (C9m ht)).hok (.cons (A1y (B5o ht)).hok (.cons (A1y (A7o ht)).hok (.cons (A1y (C4w ht hlim hD hF hn)).hok (.cons (A1y hD).hok .nil)))))) mixed
theorem panL : POK Tryz.prog (G q) (orE (ceL l t n)) :=
 A5z.ok (.cons (A1y (A7n ht)).eok (.cons (A1y (C9m ht)).eok (.cons (A1y (B5o ht)).eok (.cons (A1y (A7o ht)).eok (.cons (A1y (C4w ht hlim hD hF hn)).eok (.cons (A1y hD).eok .nil))))))
theorem E5r (hi : i <= l.length) : PM Tryz.prog (G q) t 85 i [iv (64 - (n : Int))] (resP dT (dffS (l.map kt) (desS (l.map kt) n) i)) := by
 have C := ctxL ht hlim hD hF hn
 have E := panL ht hlim hD hF hn
 obtain ⟨L, hL⟩ : ∃ L, L = l.map kt := ⟨_, rfl⟩
 have hLl : L.length = l.length := by rw [hL, List.length_map]
 have hgi : ∀ p, p <= l.length -> A9e l n p [iv (64 - (n : Int))] = some (resP (A2h eD) (A3x L n p)) := fun p hp => by rw [C4v hp, hL]
 rw [<- hL]
 cases hx : l[i]? with
 | none =>
  have hge : l.length <= i := by simpa using hx
  have e1 : dffS L (desS L n) i = .error 9 := by unfold dffS; rw [if_pos (by omega)]
  rw [e1]
  have h1 : ∀ R : Row, eP t (A2n l) [.ptr 0 0] [(1, R), (0, pr t i)] 2 = some (errC 9) := fun R => A4b (ts := []) rfl (by omega) (by simp [A2n, hx])
  refine A1w.callO rfl ?_
  refine A0l C E rfl ?_
  simp -implicitDefEqProofs [A1j, ctL, ceL, h1, resP, outP]
 | some x =>
  have hlt : i < l.length := (List.getElem?_eq_some_iff.1 hx).1
  obtain ⟨Z, hZ⟩ : ∃ Z : Row, Z = .cells 25 [.t (iv 0), .t (sv ⟨#[]⟩), .t nilS, .t nilS] := ⟨_, rfl⟩
  have h1 : hP t (A2n l) [.ptr 0 0] [(1, .cells 25 [.t (iv 0), .t (sv ⟨#[]⟩), .t nilS, .t nilS]), (0, pr t i)] 2 = some (.t (.ag (eTok.enc x)), [(1, .cells 25 [.t (iv 0), .t (sv ⟨#[]⟩), .t nilS, .t nilS]), (0, pr t i)], 2) := A3g (ts := []) rfl (by omega) (by simp [A2n, hx])
  have h2 : eP t (A2n l) [.ptr 0 0] [(1, .cells 25 [.t (iv 0), .t (sv ⟨#[]⟩), .t nilS, .t nilS]), (0, pr t i)] 2 = none := A3i (ts := []) (x := (.ag (eTok.enc x), i)) rfl (by simp [A2n, hx])
  have hu : ∀ (X Y : Row) (p p' : Nat), upd [(2, X), (1, Y), (0, pr t p)] 0 (pr t p') = [(2, X), (1, Y), (0, pr t p')] := fun _ _ _ _ => rfl
  have h3 : ∀ X Y : Row, hP t (gIs l) [.ptr 0 0, .t (sv ⟨#[33, 62]⟩)] [(2, X), (1, Y), (0, pr t i)] 3 = some (.t (bv (isSy L i [33, 62])), [(2, X), (1, Y), (0, pr t i)], 3) := fun X Y => by
   rw [hL]; exact A3g (ts := [sv ⟨#[33, 62]⟩]) rfl (by omega) rfl
  have h4 : ∀ X Y : Row, eP t (gIs l) [.ptr 0 0, .t (sv ⟨#[33, 62]⟩)] [(2, X), (1, Y), (0, pr t i)] 3 = none := fun X Y =>
   A3i (ts := [sv ⟨#[33, 62]⟩]) (x := (bv (isSy (l.map kt) i [33, 62]), i)) rfl rfl
  have h5 : ∀ (X Y : Row) p, p <= l.length -> ∀ p', A3v L p [33, 62] = .ok p' -> hP t (B2w l) [.ptr 0 0, .t (sv ⟨#[33, 62]⟩)] [(2, X), (1, Y), (0, pr t p)] 3 = some (.t (.tu []), [(2, X), (1, Y), (0, pr t p')], 3) := fun X Y p hp p' h => by
   rw [hL] at h
   exact A3g (ts := [sv ⟨#[33, 62]⟩]) rfl (by omega) ((if_pos (by omega)).trans (by show some (skR (A3v (l.map kt) p [33, 62])) = _; rw [h]; rfl))
  have h6 : ∀ (X Y : Row) p, p <= l.length -> ∀ e, A3v L p [33, 62] = .error e -> eP t (B2w l) [.ptr 0 0, .t (sv ⟨#[33, 62]⟩)] [(2, X), (1, Y), (0, pr t p)] 3 = some (errC e) := fun X Y p hp e h => by
   rw [hL] at h
   exact A4b (ts := [sv ⟨#[33, 62]⟩]) rfl (by omega) ((if_pos (by omega)).trans (by show some (skR (A3v (l.map kt) p [33, 62])) = _; rw [h]; rfl))
  cases hs : isSy L i [33, 62] with
  | true =>
   have hsk : A3v L i [33, 62] = .ok (i + 1) := by unfold A3v; rw [if_neg (by omega), if_pos hs]
   have e1 : dffS L (desS L n) i = .ok (.mk 8 ⟨#[]⟩ [] [], i + 1) := by unfold dffS; rw [if_neg (by omega), if_pos hs, A2x, hsk]
   have h5' := fun X Y => h5 X Y i hi _ hsk
   rw [e1]
   rw [hs] at h3
   refine PM.ret (H' := [(2, .cells 25 [.t (iv 8), .t (sv ⟨#[]⟩), .t nilS, .t nilS]), (1, .cells 25 [.t (iv 8), .t (sv ⟨#[]⟩), .t nilS, .t nilS]), (0, pr t (i + 1))]) (nx' := 3) ?_ rfl
   refine A1w.callP rfl ?_
   refine A0c C ?_
   simp -implicitDefEqProofs [A1j, ctL, h1, -evalK_build, bd1, sd2, h3, h5', ld4, sd1]
   exact ⟨.inr rfl, _, _, Sub.refl _, rfl, by rw [dT, A4p]; rfl, rfl, rfl⟩
  | false =>
   have e0 : dffS L (desS L n) i = match A3x L n i with
     | .error e => .error e
     | .ok (kids, p2) => A2x L [33, 62] 8 kids p2 := by
    unfold dffS A3x
    rw [if_neg (by omega), hs, if_neg (by simp)]
    cases desS L n i <;> rfl
   rw [hs] at h3
   cases hit : A3x L n i with
   | error e =>
    rw [hit] at e0
    simp only at e0
    rw [e0]
    have h7 : ∀ X Y : Row, eP t (A9e l n) [.ptr 0 0, .t (iv (64 - (n : Int)))] [(2, X), (1, Y), (0, pr t i)] 3 = some (errC e) := fun X Y =>
     A4b (ts := [iv (64 - (n : Int))]) rfl (by omega) (by rw [hgi i hi, hit]; rfl)
    refine A1w.callO rfl ?_
    refine A0l C E rfl ?_
    simp -implicitDefEqProofs [A1j, ctL, ceL, h1, h2, -evalK_build, bd1, sd2, h3, h4, h7, resP, outP]
   | ok y =>
    obtain ⟨kids, p2⟩ := y
    rw [hit] at e0
    simp only at e0
    rw [e0]
    have hp2 : p2 <= l.length := by
     rw [<- hLl]
     exact (C4u (by rw [hL]; exact hF) hit).2.1
    have h7 : ∀ X Y : Row, hP t (A9e l n) [.ptr 0 0, .t (iv (64 - (n : Int)))] [(2, X), (1, Y), (0, pr t i)] 3 = some (.t (A2h eD kids), [(2, X), (1, Y), (0, pr t p2)], 3) := fun X Y =>
     A3g (ts := [iv (64 - (n : Int))]) rfl (by omega) (by rw [hgi i hi, hit]; rfl)
    have h8 : ∀ X Y : Row, eP t (A9e l n) [.ptr 0 0, .t (iv (64 - (n : Int)))] [(2, X), (1, Y), (0, pr t i)] 3 = none := fun X Y =>
     A3i (ts := [iv (64 - (n : Int))]) (x := (A2h eD kids, p2)) rfl (by rw [hgi i hi, hit]; rfl)
    cases hsk : A3v L p2 [33, 62] with
    | error e =>
     have e1 : A2x L [33, 62] 8 kids p2 = .error e := by rw [A2x, hsk]
     rw [e1]
     have h6' := fun X Y => h6 X Y p2 hp2 _ hsk
     refine A1w.callO rfl ?_
     refine A0l C E rfl ?_
     simp -implicitDefEqProofs [A1j, ctL, ceL, h1, h2, -evalK_build, bd1, sd2, sd23, h3, h4, h6', h7, h8, resP, outP]
    | ok p3 =>
     have e1 : A2x L [33, 62] 8 kids p2 = .ok (.mk 8 ⟨#[]⟩ [] kids, p3) := by rw [A2x, hsk]
     have h5' := fun X Y => h5 X Y p2 hp2 _ hsk
     rw [e1]
     refine PM.ret (H' := [(2, .cells 25 [.t (iv 8), .t (sv ⟨#[]⟩), .t nilS, .t (A2h eD kids)]), (1, .cells 25 [.t (iv 8), .t (sv ⟨#[]⟩), .t nilS, .t (A2h eD kids)]), (0, pr t p3)]) (nx' := 3) ?_ rfl
     refine A1w.callP rfl ?_
     refine A0c C ?_
     simp -implicitDefEqProofs [A1j, ctL, h1, -evalK_build, bd1, sd2, sd23, h3, h7, h5', ld4, sd1]
     exact ⟨.inr rfl, _, _, Sub.refl _, rfl, by rw [dT, A4p]; rfl, rfl, rfl⟩
end
variable {q : Gl} {t : T} {l : List Tok} {i : Nat}
theorem D2i (ht : IsS eTok t l) (hlim : l.length <= 1000000) {n : Nat} (hD : A9f q t l n) (hF : Fwd (l.map kt) (desS (l.map kt) n)) (hn : n <= 64) (hi : i <= l.length) {kids : List Ds} {p : Nat} (hs : A3x (l.map kt) n i = .ok (kids, p)) (hne : kids ≠ []) (X Y : Row) :
  HOK Tryz.prog (G q) 116 (hOne [.ptr 0 0, .t (iv (64 - (n : Int)))] [(2, X), (1, Y), (0, pr t i)] 3 (rowP eD 3 kids, [(3, A3h eD 25 kids), (2, X), (1, Y), (0, pr t p)], 4)) := by
 refine A2q ?_ ?_
 ·have h := D5u (q := q) ht hlim hD hF hn hi hs
  have h2 := h.lift (fun b => b) 3 [(2, X), (1, Y), (0, pr t i)] [(3, A3h eD 25 kids), (2, X), (1, Y), (0, pr t p)] (fun b hb => by omega) (fun b c _ _ e => e) (by omega)
   (fun q hq => by
    simp only [List.mem_singleton] at hq
    subst hq
    exact ⟨by simp [Abs.look, A0v, renL, ren], by show 0 < 1; omega, by simp [A0m, A0x, under]⟩)
   (by simp [A0x, under]) (A0o _ _ _ _ (by omega))
   (fun q hq => by
    rcases List.mem_append.1 hq with hq | hq
    ·simp only [List.mem_singleton] at hq
     subst hq
     exact ⟨by show 0 < 2; omega, by simp [A0m, A0x, under]⟩
    ·obtain ⟨_, rfl⟩ := A2p hq
     exact ⟨by show 1 < 2; omega, A0y _ _ _ _⟩)
   (fun b x hb => by
    simp only [Abs.look] at hb
    split at hb
    ·rename_i e
     injection hb with hb
     subst hb
     refine .inl ⟨1, A3h eD 25 kids, ?_, ?_, ?_⟩
     ·exact (A0n.head' eD 25 1 kids).cons (k := 0) (by omega) |>.resolve_left hne
     ·simp [A1n]; omega
     ·rw [A1e]
    ·split at hb
     ·rename_i e
      injection hb with hb
      subst hb
      refine .inr ⟨by simp [Abs.look, <- e], fun b0 x0 h0 => ?_⟩
      simp only [Abs.look] at h0
      split at h0
      ·omega
      ·cases h0
     ·split at hb
      ·rename_i e
       injection hb with hb
       subst hb
       refine .inr ⟨by simp [Abs.look, <- e], fun b0 x0 h0 => ?_⟩
       simp only [Abs.look] at h0
       split at h0
       ·omega
       ·cases h0
      ·split at hb
       ·rename_i e
        injection hb with hb
        subst hb
        refine .inl ⟨0, pr t p, rfl, by simp [A1n]; omega, by simp [A0v, renL, ren]⟩
       ·cases hb)
  have e1 : ren (A1n (fun b => b) 1 3) (rowP eD 1 kids) = rowP eD 3 kids := by rw [A1c]; rfl
  rw [e1] at h2
  exact h2
 ·intro _ b x hb
  simp only [Abs.look] at hb
  split at hb
  ·omega
  ·split at hb
   ·omega
   ·split at hb
    ·omega
    ·split at hb
     ·omega
     ·cases hb
theorem B7h {P : Program} {G : A0t} {B b3 nx n p : Nat} {env : List (Nat × PV)} {H : Heap} {a b c : T} {kids : List Ds} {y0 y1 y2 y3 : T} (hB : B <= 3) (hr : A0n eD 25 H b3 kids) (hb : 2 < b3)
  (h2 : Abs.look H 2 = some (.cells 25 [.t a, .t b, .t c, rowP eD b3 kids])) (h1 : Abs.look H 1 = some (.cells 25 [.t y0, .t y1, .t y2, .t y3])) (h0 : Abs.look H 0 = some (pr t p))
  (e5 : Abs.look env 5 = some (.ptr 2 0)) (e4 : Abs.look env 4 = some (.ptr 1 0)) (e0 : Abs.look env 0 = some (.ptr 0 0)) :
  Sub P G B ⟨env, H, nx, n⟩ ⟨[(5, .ptr 2 0), (4, .ptr 1 0), (0, .ptr 0 0)], [(2, .cells 25 [.t a, .t b, .t c, .t (A2h eD kids)]), (1, .cells 25 [.t y0, .t y1, .t y2, .t y3]), (0, pr t p)], 3, n⟩ := by
 have h3 : Sub P G B ⟨env, H, nx, n⟩ (A0b.frz ⟨env, H, nx, n⟩ [b3]) := B6j [b3]
 refine h3.trans (A7s (fun x => x) rfl hB (fun _ _ => rfl) (fun q hq => ?_) (fun q hq => ?_) (fun _ _ _ _ e => e))
 ·simp only [A0b.frz, A4x]
  simp only [List.mem_cons, List.not_mem_nil, or_false] at hq
  rcases hq with rfl | rfl | rfl
  ·rw [e5]; exact ⟨rfl, rfl⟩
  ·rw [e4]; exact ⟨rfl, rfl⟩
  ·rw [e0]; exact ⟨rfl, rfl⟩
 ·have hl : ∀ k, k ≠ b3 -> Abs.look (remAll H [b3]) k = Abs.look H k := fun k hk => by
   simp only [remAll, List.foldl_cons, List.foldl_nil]
   rw [A1s, if_neg hk]
  have hf : frzP H [b3] (rowP eD b3 kids) = .t (A2h eD kids) := by
   unfold frzP
   rw [hr.toT]
   have : (B8l b3 kids).all ([b3].contains ·) = true := by cases kids <;> simp [B8l]
   simp only [this, if_true]
  simp only [A0b.frz, A4x]
  simp only [List.mem_cons, List.not_mem_nil, or_false] at hq
  rcases hq with rfl | rfl | rfl
  ·refine ⟨?_, by show 2 < 3; omega, rfl⟩
   rw [hl 2 (by omega), h2, Option.map_some]
   simp only [A7c, List.map_cons, List.map_nil, C0c, hf, A0v, renL, ren]
  ·refine ⟨?_, by show 1 < 3; omega, rfl⟩
   rw [hl 1 (by omega), h1, Option.map_some]
   simp only [A7c, List.map_cons, List.map_nil, C0c, A0v, renL, ren]
  ·refine ⟨?_, by show 0 < 3; omega, rfl⟩
   rw [hl 0 (by omega), h0, Option.map_some]
   simp only [A7c, List.map_cons, List.map_nil, C0c, A0v, renL, ren]
end Go.Proofs.YtjkkgbdoeaihmaaGreatDoor
