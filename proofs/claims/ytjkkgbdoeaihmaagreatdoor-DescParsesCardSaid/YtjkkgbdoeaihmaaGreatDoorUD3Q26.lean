/-
 Auxiliary facts. No statement of the program stands here.
-/
import Derived.Test.YtjkkgbdoeaihmaaGreatDoorUD3Q25
namespace Go.Proofs.YtjkkgbdoeaihmaaGreatDoor
set_option linter.unusedSimpArgs false
set_option linter.unusedVariables false
open Go Go.Abs
variable {q : Gl} {t : T} {l : List Tok} {i : Nat}
noncomputable def gLst (l : List Tok) (n : Nat) : PG := fun i ts => match ts with
 | [.v (.int .i64 v)] => if v = 64 - (n : Int) /\ i <= l.length then some (resP dT (lstS (l.map kt) (desS (l.map kt) n) i)) else none
 | _ => none
noncomputable def gDff (l : List Tok) (n : Nat) : PG := fun i ts => match ts with
 | [.v (.int .i64 v)] => if v = 64 - (n : Int) /\ i <= l.length then some (resP dT (dffS (l.map kt) (desS (l.map kt) n) i)) else none
 | _ => none
section
variable {n : Nat} (ht : IsS eTok t l) (hlim : l.length <= 1000000) (hD : A9f q t l n) (hF : Fwd (l.map kt) (desS (l.map kt) n)) (hn : n <= 64)
include ht hlim hD hF hn
theorem D6c : ∀ i ts o, gLst l n i ts = some o -> PM Tryz.prog (G q) t 84 i ts o := fun i ts o h => by
 unfold gLst at h
 split at h
 ·split at h
  ·rename_i hc
   obtain ⟨rfl, hi⟩ := hc
   injection h with h
   subst h
   exact E0f ht hlim hD hF hn hi
  ·cases h
 ·cases h
theorem D6d : ∀ i ts o, gDff l n i ts = some o -> PM Tryz.prog (G q) t 85 i ts o := fun i ts o h => by
 unfold gDff at h
 split at h
 ·split at h
  ·rename_i hc
   obtain ⟨rfl, hi⟩ := hc
   injection h with h
   subst h
   exact E5r ht hlim hD hF hn hi
  ·cases h
 ·cases h
end
noncomputable def ctT (l : List Tok) (t : T) (n : Nat) : HTbl := [(55, hP t (A2n l)), (82, hP t (B8o l)), (84, hP t (gLst l n)), (85, hP t (gDff l n))]
noncomputable def ceT (l : List Tok) (t : T) (n : Nat) : ETbl := [(55, eP t (A2n l)), (82, eP t (B8o l)), (84, eP t (gLst l n)), (85, eP t (gDff l n))]
section
variable {n : Nat} (ht : IsS eTok t l) (hlim : l.length <= 1000000) (hD : A9f q t l n) (hF : Fwd (l.map kt) (desS (l.map kt) n)) (hn : n <= 64)
include ht hlim hD hF hn
theorem ctxT : A1r Tryz.prog (G q) (ctT l t n) :=
 .cons (A1y (A7n ht)).hok (.cons (A1y (B5n ht)).hok (.cons (A1y (D6c ht hlim hD hF hn)).hok (.cons (A1y (D6d ht hlim hD hF hn)).hok .nil)))
theorem panT : A5z Tryz.prog (G q) (ceT l t n) :=
 .cons (A1y (A7n ht)).eok (.cons (A1y (B5n ht)).eok (.cons (A1y (D6c ht hlim hD hF hn)).eok (.cons (A1y (D6d ht hlim hD hF hn)).eok .nil)))
end
section
variable (X : Row) (R : Heap) (i j : Nat) (t : T) (k v : Int) (s : List UInt8)
theorem gl1 : A0s false 1 ((2, X) :: (0, pr t i) :: R) (.ptr 0 1) = some (.t (iv (i : Int))) := rfl
theorem gw2 : A1b 1 ((2, X) :: (0, pr t i) :: R) (.ptr 0 1) (.t (iv ((i : Int) + 1))) = some ((2, X) :: (0, pr t (i + 1)) :: R) := rfl
theorem gk0 : A0s false 1 ((2, .cells 44 [.t (iv k), .t (sv (bs s)), .t (iv v)]) :: R) (.ptr 2 0) = some (.t (iv k)) := rfl
theorem gk1 : A0s false 1 ((2, .cells 44 [.t (iv k), .t (sv (bs s)), .t (iv v)]) :: R) (.ptr 2 1) = some (.t (sv (bs s))) := rfl
theorem gst (y0 y1 y2 : PV) : A1b 3 ((2, .cells 44 [y0, y1, y2]) :: R) (.ptr 2 0) (.t (.ag [iv k, sv (bs s), iv v])) = some ((2, .cells 44 [.t (iv k), .t (sv (bs s)), .t (iv v)]) :: R) := rfl
theorem bdN {Φ : A0u} {H : Heap} {nx : Nat} (n : ByteArray) : A0d Φ H nx (.build [(0, 1), (1, 1), (2, 1), (3, 1)] [.int .i64 0, .string ⟨#[]⟩, .slice none 0 0, .slice none 0 0] [0, 1]) [.t (iv k), .t (sv n)] = some (.t (dT (.mk k n [] [])), H, nx) := by
 rw [dT, A4p]; rfl
end
theorem E3z (ht : IsS eTok t l) (hlim : l.length <= 1000000) {n : Nat} (hD : A9f q t l n) (hF : Fwd (l.map kt) (desS (l.map kt) n)) (hn : n <= 64) (hi : i <= l.length) {parts : List Ds} (hpl : parts.length <= 255) :
  KM q t 56 i parts (64 - (n : Int)) (A6d (l.map kt) (desS (l.map kt) n) i parts) := by
 have HC := ctxT ht hlim hD hF hn
 have HE := panT ht hlim hD hF hn
 have C : Ctx Tryz.prog (G q) (orh [] (ctT l t n)) := A0z.nil.ctxH HC mixed
 have E : POK Tryz.prog (G q) (orE (ceT l t n)) := HE.ok
 obtain ⟨L, hL⟩ : ∃ L, L = l.map kt := ⟨_, rfl⟩
 have hLl : L.length = l.length := by rw [hL, List.length_map]
 have hbr := fun {i : Nat} (hi : i <= l.length) => br_ok ht hlim hD hF hn hi hpl
 rw [<- hL] at hF hbr ⊢
 refine B2i.callO rfl ?_
 obtain ⟨R, hR⟩ : ∃ R, R = A6d L (desS L n) i parts := ⟨_, rfl⟩
 rw [<- hR]
 cases hx : l[i]? with
 | none =>
  have e1 : R = .error 9 := by rw [hR]; unfold A6d; rw [hL, C4r, hx]; rfl
  rw [e1]
  have h1 : eP t (A2n l) [.ptr 0 0] ((0, pr t i) :: rowH eD 25 1 parts) 2 = some (errC 9) := A4b (ts := []) rfl (by omega) (by simp [A2n, hx])
  refine A0l C E rfl ?_
  simp -implicitDefEqProofs [A3b, ctT, ceT, h1, outK]
 | some x =>
  have hlt : i < l.length := (List.getElem?_eq_some_iff.1 hx).1
  have h1 : hP t (A2n l) [.ptr 0 0] ((0, pr t i) :: rowH eD 25 1 parts) 2 = some (.t (.ag (eTok.enc x)), (0, pr t i) :: rowH eD 25 1 parts, 2) := A3g (ts := []) rfl (by omega) (by simp [A2n, hx])
  have h2 : eP t (A2n l) [.ptr 0 0] ((0, pr t i) :: rowH eD 25 1 parts) 2 = none := A3i (ts := []) (x := (.ag (eTok.enc x), i)) rfl (by simp [A2n, hx])
  have e0 : R = if x.k = 1 then .ok (parts ++ [.mk 1 (bs x.t) [] []], i + 1)
    else if x.k ≠ 5 then .error 8
    else if x.t = [64] then A7y parts (B2u 2 (A2u L (i + 1) 1))
    else if x.t = [35] then A7y parts (B2u 3 (A2u L (i + 1) 1))
    else if x.t = [91] then brS L (desS L n) (L.length + 1) (i + 1) parts
    else if x.t = [60] then A7y parts (lstS L (desS L n) (i + 1))
    else if x.t = [60, 33] then A7y parts (dffS L (desS L n) (i + 1))
    else .error 8 := by rw [hR]; unfold A6d; rw [show L[i]? = some (kt x) by rw [hL, C4r, hx]; rfl]
  have ew : IntKind.i64.wrap ((i : Int) + 1) = ((i + 1 : Nat) : Int) := A1a (by omega) (by omega)
  obtain ⟨tk, htk⟩ : ∃ tk : Row, tk = .cells 44 [.t (iv x.k), .t (sv (bs x.t)), .t (iv x.l)] := ⟨_, rfl⟩
  -- a description goes behind the parts
  have fin : ∀ (d : Ds) (p : Nat) (env : List (Nat × PV)) (hE : R = .ok (parts ++ [d], p)), ∃ b4 H4 n4, appM 25 4 72 ((3, .cells 25 ((encD d).map .t)) :: (2, tk) :: (0, pr t p) :: rowH eD 25 1 parts) 4 (rowP eD 1 parts) (.row 3 0 1 4) = some (rowP eD b4 (parts ++ [d]), H4, n4) /\
    (∀ env, Abs.look env 6 = some (rowP eD b4 (parts ++ [d])) -> D2g Tryz.prog (G q) 2 [RV.tmp 6] (outK t R) .ret ⟨env, H4, n4, 78⟩) := by
   intro d p env hE
   obtain ⟨b4, H4, n4, ap, r4, ne4, hle4, hold, hb4⟩ := A4j (e := eD) (ty := 25) (by' := 72) (nx := 4) (m := [d]) (H := (3, .cells 25 ((encD d).map .t)) :: (2, tk) :: (0, pr t p) :: rowH eD 25 1 parts) (b := 1) (l := parts)
    ((((A0n.head' eD 25 1 parts).cons (by omega)).cons (by omega)).cons (by omega)) (A7w (e := eD) (b := 3) (ty := 25) d rfl) (by simp; omega) (by simp; omega)
   refine ⟨b4, H4, n4, ap, fun env henv => ?_⟩
   rw [hE]
   refine B2v (rs := [rowP eD 2 (parts ++ [d])]) (s2 := ⟨[(6, rowP eD 2 (parts ++ [d]))], [(0, pr t p)] ++ rowH eD 25 2 (parts ++ [d]), 3, 78⟩) (.inr rfl) ?_ rfl rfl rfl rfl
   exact A2k (k := b4) r4 (by omega) (by omega) (by simp -implicitDefEqProofs [A0v, renL, ren, A0m, A0x, under, show Abs.look H4 0 = some (pr t p) from (hold 0 (by omega) (by omega)).trans rfl]; omega) (by simp -implicitDefEqProofs [A1c, A0o, henv])
  by_cases k1 : x.k = 1
  ·rw [if_pos k1] at e0
   obtain ⟨b4, H4, n4, ap, he⟩ := fin _ _ [] e0
   have kb : (x.k == 1) = true := by rw [k1]; rfl
   rw [htk] at ap
   refine A0l C E rfl ?_
   simp -implicitDefEqProofs [A3b, ctT, ceT, h1, h2, eTok, gst, gk0, gk1, gl1, gw2, kb, ew, -evalK_build, bdN, bsD, ap]
   exact he _ rfl
  rw [if_neg k1] at e0
  have kb : (x.k == 1) = false := by simpa using k1
  by_cases k5 : x.k = 5
  case neg =>
   rw [if_pos k5] at e0
   rw [e0]
   have kc : (x.k != 5) = true := by simpa using k5
   refine A0l C E rfl ?_
   simp -implicitDefEqProofs [A3b, ctT, ceT, h1, h2, eTok, gst, gk0, kb, kc, outK]
  rw [if_neg (fun h => h k5)] at e0
  have kc : (x.k != 5) = false := by simpa using k5
  unfold A3b
  refine A0k C E rfl ?_
  simp -implicitDefEqProofs
  refine A0k C E rfl ?_
  simp -implicitDefEqProofs [ctT, ceT, h1, h2, eTok, gst, gk0]
  refine A0k C E rfl ?_
  simp -implicitDefEqProofs [ctT, ceT, h1, h2, eTok, gst, gk0, kb]
  refine A0k C E rfl ?_
  simp -implicitDefEqProofs [gk0, kc]
  refine A0k C E rfl ?_
  simp -implicitDefEqProofs [gl1, gw2, ew]
  rw [<- htk]
  obtain ⟨H2, hH2⟩ : ∃ H2 : Heap, H2 = (2, tk) :: (0, pr t (i + 1)) :: rowH eD 25 1 parts := ⟨_, rfl⟩
  have l20 : Abs.look H2 0 = some (pr t (i + 1)) := by rw [hH2]; rfl
  have lt1 : A0s false 1 H2 (.ptr 2 1) = some (.t (sv (bs x.t))) := by rw [hH2, htk]; rfl
  have hu2 : ∀ p, upd H2 0 (pr t p) = (2, tk) :: (0, pr t p) :: rowH eD 25 1 parts := fun p => by rw [hH2]; simp [upd]
  rw [<- hH2]
  have bq : ∀ (s : List UInt8) (b : Bool), decide (x.t = s) = b -> (x.t == s) = b := fun s b h => by rw [<- h]; exact Bool.eq_iff_iff.2 (by simp)
  have hi1 : i + 1 <= l.length := hlt
  -- a name behind a symbol
  have named : ∀ op : Int, R = A7y parts (B2u op (A2u L (i + 1) 1)) -> (∃ e, A2u L (i + 1) 1 = .error e /\ R = .error e) \/ (∃ s p, A2u L (i + 1) 1 = .ok (s, p) /\ p <= l.length /\ R = .ok (parts ++ [.mk op s [] []], p)) := fun op h => by
   cases hk : A2u L (i + 1) 1 with
   | error e => rw [hk] at h; exact .inl ⟨e, rfl, h⟩
   | ok y =>
    obtain ⟨s, p⟩ := y
    rw [hk] at h
    have := A7p hk
    exact .inr ⟨s, p, rfl, by omega, h⟩
  by_cases s64 : x.t = [64]
  ·rw [if_pos s64] at e0
   have b64 := bq [64] true (by simp [s64])
   rcases named 2 e0 with ⟨e, hk, hE⟩ | ⟨s, p, hk, hp, hE⟩
   ·rw [hE]
    have m1 := B5r (t := t) (nx := 3) (H := H2) hL hlim l20 (by omega) hi1 hk
    refine A0l C E rfl ?_
    simp -implicitDefEqProofs [ctT, ceT, lt1, b64, m1, outK]
   ·have m1 := B5q (t := t) (nx := 3) (H := H2) hL hlim l20 (by omega) hi1 hk
    have m2 := B2z (t := t) (nx := 3) (H := H2) hL hlim l20 hi1 hk
    obtain ⟨b4, H4, n4, ap, he⟩ := fin _ _ [] hE
    rw [hu2] at m1
    refine A0l C E rfl ?_
    simp -implicitDefEqProofs [ctT, ceT, lt1, b64, m1, m2, -evalK_build, bdN, bsD, ap]
    exact he _ rfl
  rw [if_neg s64] at e0
  have b64 := bq [64] false (by simp [s64])
  by_cases s35 : x.t = [35]
  ·rw [if_pos s35] at e0
   have b35 := bq [35] true (by simp [s35])
   rcases named 3 e0 with ⟨e, hk, hE⟩ | ⟨s, p, hk, hp, hE⟩
   ·rw [hE]
    have m1 := B5r (t := t) (nx := 3) (H := H2) hL hlim l20 (by omega) hi1 hk
    refine A0l C E rfl ?_
    simp -implicitDefEqProofs [ctT, ceT, lt1, b64, b35, m1, outK]
   ·have m1 := B5q (t := t) (nx := 3) (H := H2) hL hlim l20 (by omega) hi1 hk
    have m2 := B2z (t := t) (nx := 3) (H := H2) hL hlim l20 hi1 hk
    obtain ⟨b4, H4, n4, ap, he⟩ := fin _ _ [] hE
    rw [hu2] at m1
    refine A0l C E rfl ?_
    simp -implicitDefEqProofs [ctT, ceT, lt1, b64, b35, m1, m2, -evalK_build, bdN, bsD, ap]
    exact he _ rfl
  rw [if_neg s35] at e0
  have b35 := bq [35] false (by simp [s35])
  by_cases s91 : x.t = [91]
  ·rw [if_pos s91] at e0
   have b91 := bq [91] true (by simp [s91])
   obtain ⟨Rb, hRb⟩ : ∃ Rb, Rb = brS L (desS L n) (L.length + 1) (i + 1) parts := ⟨_, rfl⟩
   rw [<- hRb] at e0
   have hb := hbr hi1
   rw [<- hRb] at hb
   have hbne : ∀ parts' p, Rb = .ok (parts', p) -> parts' ≠ [] := fun parts' p h => by
    have := (C4s hF _ _ _ _ _ (hRb.symm.trans h)).2.2.1
    intro e
    rw [e] at this
    simp at this
   have hl := KM.lift hb (H := H2) (b := 1) (NX := 3) l20 (by rw [hH2]; exact ((A0n.head' eD 25 1 parts).cons (by omega)).cons (by omega)) (by omega) (by omega) hbne
   have C' := A0z.nil.ctxH (.cons (E3v hl (D5x (by omega))) HC) mixed
   have E' := (A5z.cons (E3w hl) HE).ok
   cases hRb' : Rb with
   | error e =>
    rw [hRb'] at e0 C' E'
    rw [e0]
    have m1 := C7e [.ptr 0 0, rowP eD 1 parts, .t (iv (64 - (n : Int)))] H2 3 (errC e)
    refine A0l C' E' rfl ?_
    simp -implicitDefEqProofs [lt1, b64, b35, b91, C1u, hO, eO, m1, outK]
   | ok y =>
    obtain ⟨parts', p⟩ := y
    have hne := hbne _ _ hRb'
    rw [hRb'] at e0 C' E'
    rw [e0]
    have m1 := A2d [.ptr 0 0, rowP eD 1 parts, .t (iv (64 - (n : Int)))] H2 3 (rowP eD 3 parts', B1h t H2 1 3 parts parts' p, 4)
    refine A0l C' E' rfl ?_
    simp -implicitDefEqProofs [lt1, b64, b35, b91, C1u, hO, eO, m1, outK]
    refine B2v (rs := [rowP eD 2 parts']) (s2 := ⟨[(6, rowP eD 2 parts')], [(0, pr t p)] ++ rowH eD 25 2 parts', 3, 78⟩) (.inr rfl) ?_ rfl rfl rfl rfl
    exact A2k (k := 3) C1v (by omega) (by omega) (by simp -implicitDefEqProofs [A0v, renL, ren, A0m, A0x, under, C7f l20]) (by simp -implicitDefEqProofs [A1c, A0o])
  rw [if_neg s91] at e0
  have b91 := bq [91] false (by simp [s91])
  by_cases s60 : x.t = [60]
  ·rw [if_pos s60] at e0
   have b60 := bq [60] true (by simp [s60])
   have gl : gLst l n (i + 1) [iv (64 - (n : Int))] = some (resP dT (lstS L (desS L n) (i + 1))) := by rw [hL]; exact if_pos ⟨rfl, hi1⟩
   cases hk : lstS L (desS L n) (i + 1) with
   | error e =>
    rw [hk] at e0 gl
    have e0 : R = .error e := e0
    rw [e0]
    have m1 := A4b (t := t) (g := gLst l n) (b := 0) (nx := 3) (H := H2) l20 (by omega) (gl.trans rfl : _ = some (.error e))
    simp only [List.map_cons, List.map_nil] at m1
    refine A0l C E rfl ?_
    simp -implicitDefEqProofs [ctT, ceT, lt1, b64, b35, b91, b60, m1, outK]
   | ok y =>
    obtain ⟨d, p⟩ := y
    rw [hk] at e0 gl
    have hE : R = .ok (parts ++ [d], p) := e0
    have m1 := A3g (t := t) (g := gLst l n) (b := 0) (nx := 3) (H := H2) l20 (by omega) (gl.trans rfl : _ = some (.ok (dT d, p)))
    have m2 := A3i (t := t) (g := gLst l n) (b := 0) (nx := 3) (H := H2) l20 (gl.trans rfl : _ = some (.ok (dT d, p)))
    obtain ⟨b4, H4, n4, ap, he⟩ := fin _ _ [] hE
    rw [hu2] at m1
    simp only [List.map_cons, List.map_nil] at m1 m2
    refine A0l C E rfl ?_
    simp -implicitDefEqProofs [ctT, ceT, lt1, b64, b35, b91, b60, m1, m2, bsD, ap]
    exact he _ rfl
  rw [if_neg s60] at e0
  have b60 := bq [60] false (by simp [s60])
  by_cases s33 : x.t = [60, 33]
  ·rw [if_pos s33] at e0
   have b33 := bq [60, 33] true (by simp [s33])
   have gl : gDff l n (i + 1) [iv (64 - (n : Int))] = some (resP dT (dffS L (desS L n) (i + 1))) := by rw [hL]; exact if_pos ⟨rfl, hi1⟩
   cases hk : dffS L (desS L n) (i + 1) with
   | error e =>
    rw [hk] at e0 gl
    have e0 : R = .error e := e0
    rw [e0]
    have m1 := A4b (t := t) (g := gDff l n) (b := 0) (nx := 3) (H := H2) l20 (by omega) (gl.trans rfl : _ = some (.error e))
    simp only [List.map_cons, List.map_nil] at m1
    refine A0l C E rfl ?_
    simp -implicitDefEqProofs [ctT, ceT, lt1, b64, b35, b91, b60, b33, m1, outK]
   | ok y =>
    obtain ⟨d, p⟩ := y
    rw [hk] at e0 gl
    have hE : R = .ok (parts ++ [d], p) := e0
    have m1 := A3g (t := t) (g := gDff l n) (b := 0) (nx := 3) (H := H2) l20 (by omega) (gl.trans rfl : _ = some (.ok (dT d, p)))
    have m2 := A3i (t := t) (g := gDff l n) (b := 0) (nx := 3) (H := H2) l20 (gl.trans rfl : _ = some (.ok (dT d, p)))
    obtain ⟨b4, H4, n4, ap, he⟩ := fin _ _ [] hE
    rw [hu2] at m1
    simp only [List.map_cons, List.map_nil] at m1 m2
    refine A0l C E rfl ?_
    simp -implicitDefEqProofs [ctT, ceT, lt1, b64, b35, b91, b60, b33, m1, m2, bsD, ap]
    exact he _ rfl
  rw [if_neg s33] at e0
  have b33 := bq [60, 33] false (by simp [s33])
  rw [e0]
  refine A0l C E rfl ?_
  simp -implicitDefEqProofs [ctT, ceT, lt1, b64, b35, b91, b60, b33, outK]
variable {q : Gl} {t : T} {l : List Tok} {i : Nat}
theorem ld_d {H : Heap} {b ty : Nat} {d : Ds} (h : Abs.look H b = some (.cells ty ((encD d).map .t))) : A0s true 4 H (.ptr b 0) = some (.t (dT d)) := by
 cases d
 rw [encD] at h
 rw [dT, encD]
 simp only [A0s, h]
 rfl
theorem st_d {H : Heap} {b ty : Nat} {d : Ds} {x0 x1 x2 x3 : PV} (h : Abs.look H b = some (.cells ty [x0, x1, x2, x3])) : A1b 4 H (.ptr b 0) (.t (dT d)) = some (upd H b (.cells ty ((encD d).map .t))) := by
 cases d
 rw [dT, encD]
 simp only [A1b, A2r, h]
 rfl
theorem st_a {H : Heap} {b ty : Nat} {k : Int} {parts : List Ds} {x0 x1 x2 x3 : PV} (h : Abs.look H b = some (.cells ty [x0, x1, x2, x3])) (h2 : 2 <= parts.length) :
  A1b 4 H (.ptr b 0) (.ag [.t (iv k), .t (sv ⟨#[]⟩), .t nilS, rowP eD 2 parts]) = some (upd H b (.cells ty [.t (iv k), .t (sv ⟨#[]⟩), .t nilS, rowP eD 2 parts])) := by
 simp only [A1b, A2r, h]
 rfl
theorem bdK {Φ : A0u} {H : Heap} {nx : Nat} {k : Int} {parts : List Ds} (h : 2 <= parts.length) : A0d Φ H nx (.build [(0, 1), (1, 1), (2, 1), (3, 1)] [.int .i64 0, .string ⟨#[]⟩, .slice none 0 0, .slice none 0 0] [0, 3]) [.t (iv k), rowP eD 2 parts] =
  some (.ag [.t (iv k), .t (sv ⟨#[]⟩), .t nilS, rowP eD 2 parts], H, nx) := by
 cases parts with
 | nil => simp at h
 | cons x r => rfl
def outD (t : T) : Res Ds -> Out
 | .error e => .pan (errC e)
 | .ok (d, p) => .ret (.t (dT d)) [(1, .cells 25 ((encD d).map .t)), (0, pr t p)] 2
theorem PM.outD {P : Program} {G : A0t} {f : FuncId} {ts : List T} {R : Res Ds} (h : B7f P G f (.ptr 0 0 :: ts.map .t) [(0, pr t i)] 1 (outD t R)) : PM P G t f i ts (resP dT R) := by
 cases R with
 | error e => exact h
 | ok x => exact PM.ret h rfl
theorem D6e {P : Program} {G : A0t} {B nx n p : Nat} {env : List (Nat × PV)} {H : Heap} {d : Ds} (hB : B <= 2) (h1 : Abs.look H 1 = some (.cells 25 ((encD d).map .t))) (h0 : Abs.look H 0 = some (pr t p)) (e4 : Abs.look env 4 = some (.ptr 1 0)) :
  Sub P G B ⟨env, H, nx, n⟩ ⟨[(4, .ptr 1 0)], [(1, .cells 25 ((encD d).map .t)), (0, pr t p)], 2, n⟩ := by
 refine A7s (fun x => x) rfl hB (fun _ _ => rfl) (fun x hx => ?_) (fun x hx => ?_) (fun _ _ _ _ e => e)
 ·simp only [List.mem_singleton] at hx
  subst hx
  exact ⟨e4, rfl⟩
 ·simp only [List.mem_cons, List.not_mem_nil, or_false] at hx
  rcases hx with rfl | rfl
  ·refine ⟨?_, by show 1 < 2; omega, B2x _ _⟩
   rw [h1, A0v, D5t]
  ·exact ⟨h0, by show 0 < 2; omega, rfl⟩
theorem E4a {P : Program} {G : A0t} {B nx n p : Nat} {env : List (Nat × PV)} {H : Heap} {k : Int} {parts : List Ds} (hB : B <= 2) (h2 : A0n eD 25 H 2 parts) (h1 : Abs.look H 1 = some (.cells 25 [.t (iv k), .t (sv ⟨#[]⟩), .t nilS, rowP eD 2 parts])) (h0 : Abs.look H 0 = some (pr t p)) (e4 : Abs.look env 4 = some (.ptr 1 0)) :
  Sub P G B ⟨env, H, nx, n⟩ ⟨[(4, .ptr 1 0)], [(1, .cells 25 ((encD (.mk k ⟨#[]⟩ [] parts)).map .t)), (0, pr t p)], 2, n⟩ := by
 have hs : Sub P G B ⟨env, H, nx, n⟩ (A0b.frz ⟨env, H, nx, n⟩ [2]) := B6j [2]
 refine hs.trans (D6e (t := t) hB ?_ ?_ ?_)
 ·refine (B2y h1 (by simp)).trans ?_
  have f1 : frzP H [2] (rowP eD 2 parts) = .t (A2h eD parts) := B4e h2 (by simp)
  rw [A4p]
  simp only [A7c, List.map_cons, List.map_nil, f1, C0c]
  rfl
 ·exact (B2y h0 (by simp)).trans rfl
 ·simp only [A4x, e4]; rfl
noncomputable def ctD (l : List Tok) (t : T) : HTbl := [(55, hP t (A2n l)), (57, hP t (A4e l))]
noncomputable def ceD (l : List Tok) (t : T) : ETbl := [(55, eP t (A2n l)), (57, eP t (A4e l))]
theorem ctxD (ht : IsS eTok t l) : A1r Tryz.prog (G q) (ctD l t) := .cons (A1y (A7n ht)).hok (.cons (A1y (A7o ht)).hok .nil)
theorem panD (ht : IsS eTok t l) : A5z Tryz.prog (G q) (ceD l t) := .cons (A1y (A7n ht)).eok (.cons (A1y (A7o ht)).eok .nil)
def SDe (t : T) (v : Int) (a : Br) : A0b := ⟨[(5, rowP eD 2 a.parts), (1, .t (iv v)), (4, .ptr 1 0), (0, .ptr 0 0)], [(1, zD), (0, pr t a.p)] ++ rowH eD 25 2 a.parts, 3, 30⟩
structure OkDe (L : List KT) (n : Nat) (R : Res (List Ds)) (a : Br) : Prop where
 le : a.p <= L.length
 fu : L.length - a.p < a.f
 pl : a.parts.length <= 256
 ne : a.parts ≠ []
 eq : andS L (desS L n) a.f a.p a.parts = R
theorem E0l (ht : IsS eTok t l) : A9f q t l 0 := fun i ts o h => by
 have C : Ctx Tryz.prog (G q) (orh [] (ctD l t)) := A0z.nil.ctxH (ctxD ht) mixed
 have E : POK Tryz.prog (G q) (orE (ceD l t)) := (panD ht).ok
 unfold gDes at h
 split at h
 ·split at h
  ·rename_i v hc
   obtain ⟨rfl, hi⟩ := hc
   injection h with h
   subst h
   unfold desS
   refine A7h.callO rfl ?_
   cases hx : l[i]? with
   | none =>
    have hge : l.length <= i := by simpa using hx
    rw [if_pos (by simpa using hge)]
    have h1 : eP t (A2n l) [.ptr 0 0] [(1, zD), (0, pr t i)] 2 = some (errC 9) := A4b (ts := []) rfl (by omega) (by simp [A2n, hx])
    refine A0l C E rfl ?_
    simp -implicitDefEqProofs [A3c, ctD, ceD, h1, resP, outP]
   | some x =>
    have hlt : i < l.length := (List.getElem?_eq_some_iff.1 hx).1
    rw [if_neg (by simpa using hlt)]
    have h1 : hP t (A2n l) [.ptr 0 0] [(1, zD), (0, pr t i)] 2 = some (.t (.ag (eTok.enc x)), [(1, zD), (0, pr t i)], 2) := A3g (ts := []) rfl (by omega) (by simp [A2n, hx])
    have h2 : eP t (A2n l) [.ptr 0 0] [(1, zD), (0, pr t i)] 2 = none := A3i (ts := []) (x := (.ag (eTok.enc x), i)) rfl (by simp [A2n, hx])
    unfold A3c
    refine A0k C E rfl ?_
    simp -implicitDefEqProofs
    refine A0l C E rfl ?_
    simp -implicitDefEqProofs [ctD, ceD, h1, h2, resP, outP]
  ·cases h
 ·cases h
theorem E0m (ht : IsS eTok t l) (hlim : l.length <= 1000000) {n : Nat} (hD : A9f q t l n) (hn : n <= 64) (hi : i <= l.length) :
  PM Tryz.prog (G q) t 34 i [iv (64 - (n : Int))] (resP dT (desS (l.map kt) (n + 1) i)) := by
 have HC := ctxD (q := q) ht
 have HE := panD (q := q) ht
 have C : Ctx Tryz.prog (G q) (orh [] (ctD l t)) := A0z.nil.ctxH HC mixed
 have E : POK Tryz.prog (G q) (orE (ceD l t)) := HE.ok
 have hF := A5g (l := l.map kt) n
 obtain ⟨L, hL⟩ : ∃ L, L = l.map kt := ⟨_, rfl⟩
 have hLl : L.length = l.length := by rw [hL, List.length_map]
 have htm := fun {i : Nat} (hi : i <= l.length) {parts : List Ds} (hpl : parts.length <= 255) => E3z ht hlim hD hF hn hi hpl
 rw [<- hL] at hF htm ⊢
 refine PM.outD (A7h.callO rfl ?_)
 obtain ⟨R, hR⟩ : ∃ R, R = desS L (n + 1) i := ⟨_, rfl⟩
 rw [<- hR]
 unfold desS at hR
 cases hx : l[i]? with
 | none =>
  have hge : l.length <= i := by simpa using hx
  rw [if_pos (by omega)] at hR
  rw [hR]
  have h1 : eP t (A2n l) [.ptr 0 0] [(1, zD), (0, pr t i)] 2 = some (errC 9) := A4b (ts := []) rfl (by omega) (by simp [A2n, hx])
  unfold A3c
  refine A0k C E rfl ?_
  simp -implicitDefEqProofs
  refine A0k C E rfl ?_
  simp -implicitDefEqProofs [ctD, ceD, h1, outD]
 | some x =>
  have hlt : i < l.length := (List.getElem?_eq_some_iff.1 hx).1
  rw [if_neg (by omega)] at hR
  have h1 : hP t (A2n l) [.ptr 0 0] [(1, zD), (0, pr t i)] 2 = some (.t (.ag (eTok.enc x)), [(1, zD), (0, pr t i)], 2) := A3g (ts := []) rfl (by omega) (by simp [A2n, hx])
  have h2 : eP t (A2n l) [.ptr 0 0] [(1, zD), (0, pr t i)] 2 = none := A3i (ts := []) (x := (.ag (eTok.enc x), i)) rfl (by simp [A2n, hx])
  have hlv : ¬ ((64 : Int) < 64 - (n : Int)) := by omega
  unfold A3c
  refine A0k C E rfl ?_
  simp -implicitDefEqProofs
  refine A0k C E rfl ?_
  simp -implicitDefEqProofs [ctD, ceD, h1, h2]
  refine A0k C E rfl ?_
  simp -implicitDefEqProofs [hlv]
  have tfw : ∀ {p : Nat} {parts parts' : List Ds} {p' : Nat}, A6d L (desS L n) p parts = .ok (parts', p') -> parts.length <= 255 -> p < p' /\ p' <= l.length /\ parts' ≠ [] /\ parts'.length <= 256 := fun h hp => by
   have := A6m hF h
   rw [hLl] at this
   refine ⟨this.1, this.2.1, fun e => ?_, this.2.2.2 hp⟩
   rw [e] at this
   simp at this
  obtain ⟨Rt, hRt⟩ : ∃ Rt, Rt = A6d L (desS L n) i [] := ⟨_, rfl⟩
  have hl := KM.lift (htm hi (parts := []) (by simp)) (H := [(1, zD), (0, pr t i)]) (b := 1) (NX := 2) rfl (.inl rfl) (by omega) (by omega) (fun parts' p h => (tfw h (by simp)).2.2.1)
  rw [<- hRt] at hR hl
  have hl : B7f Tryz.prog (G q) 56 [.ptr 0 0, .t (.v (.slice none 0 0)), .t (iv (64 - (n : Int)))] [(1, zD), (0, pr t i)] 2 (C1u t [(1, zD), (0, pr t i)] 1 2 [] Rt) := hl
  have C' := A0z.nil.ctxH (.cons (E3v hl (D5x (by omega))) HC) mixed
  have E' := (A5z.cons (E3w hl) HE).ok
  cases hRt' : Rt with
  | error e =>
   rw [hRt'] at hR C' E'
   simp only at hR
   rw [hR]
   have m1 := C7e [.ptr 0 0, .t (.v (.slice none 0 0)), .t (iv (64 - (n : Int)))] [(1, zD), (0, pr t i)] 2 (errC e)
   refine A0k C' E' rfl ?_
   simp -implicitDefEqProofs [ctD, ceD, C1u, hO, eO, m1, outD]
  | ok y =>
   obtain ⟨parts0, p0⟩ := y
   have hf0 := tfw (hRt.symm.trans hRt') (by simp)
   rw [hRt'] at hR C' E'
   simp only at hR
   obtain ⟨R2, hR2⟩ : ∃ R2, R2 = andS L (desS L n) (L.length + 1) p0 parts0 := ⟨_, rfl⟩
   rw [<- hR2] at hR
   have m1 := A2d [.ptr 0 0, .t (.v (.slice none 0 0)), .t (iv (64 - (n : Int)))] [(1, zD), (0, pr t i)] 2 (rowP eD 2 parts0, B1h t [(1, zD), (0, pr t i)] 1 2 [] parts0 p0, 3)
   refine A0k C' E' rfl ?_
   simp -implicitDefEqProofs [ctD, ceD, C1u, hO, eO, m1]
   refine A2g (α := Br) (SDe t (64 - (n : Int))) (fun a => R2 = .ok (a.parts, a.p) /\ a.parts ≠ []) (fun _ => rfl) ?_ ?_
   ·refine A0w ?_
    refine A1l (SDe t (64 - (n : Int))) (fun a => a.f) (OkDe L n R2) ⟨L.length + 1, p0, parts0⟩ (fun _ => rfl) ⟨by show p0 <= _; omega, by show L.length - p0 < L.length + 1; omega, hf0.2.2.2, hf0.2.2.1, hR2.symm⟩ ?_ rfl ?_
    ·exact A2k (k := 2) C1v (by omega) (by omega) (by
      have r0 := C7f (t := t) (H := [(1, zD), (0, pr t i)]) (b := 1) (NX := 2) (p := p0) (parts := []) (parts' := parts0) rfl (by omega) (by omega)
      have r1 : Abs.look (B1h t [(1, zD), (0, pr t i)] 1 2 [] parts0 p0) 1 = some zD := B7i (by omega) (.inr rfl) (by omega)
      simp -implicitDefEqProofs [A0v, renL, ren, A0m, A0x, under, r0, r1]) (by simp -implicitDefEqProofs [A1c, A0o, ren, under])
    ·rintro ⟨f, p, parts⟩ ⟨hp, hfu, hpl, hne, heq⟩
     simp only at hp hfu hpl hne heq
     rw [hLl] at hp hfu
     obtain ⟨f', rfl⟩ : ∃ f', f = f' + 1 := ⟨f - 1, by omega⟩
     rw [andS] at heq
     have hlen : A2f (rowP eD 2 parts) = some (.t (iv (parts.length : Int))) := A7k eD 2 parts
     cases hs : isSy L p [38] with
     | false =>
      rw [hs] at heq
      simp only [Bool.false_eq_true, if_false] at heq
      have m3 := C7h (t := t) (nx := 3) (H := (1, zD) :: (0, pr t p) :: rowH eD 25 2 parts) (s := ⟨#[38]⟩) (n := (parts.length : Int)) (m := 256) hL hlim rfl (by omega) hp hs
      have m4 := C7i (t := t) (nx := 3) (H := (1, zD) :: (0, pr t p) :: rowH eD 25 2 parts) (s := ⟨#[38]⟩) (n := (parts.length : Int)) (m := 256) hL hlim rfl hp hs
      refine A0l C E rfl ?_
      simp -implicitDefEqProofs [SDe, ctD, ceD, hlen, m3, m4]
      refine Abs.Next.mk ⟨f', p, parts⟩ ⟨heq.symm, hne⟩ ?_
      exact A1i (by simp -implicitDefEqProofs)
     | true =>
      rw [hs] at heq
      simp only [if_true] at heq
      have hpl3 : p < l.length := by have := A1q hs; omega
      by_cases hbig : 256 <= parts.length
      ·rw [if_pos hbig] at heq
       rw [<- heq] at hR
       simp only at hR
       rw [hR]
       have m3 := C1x (t := t) (nx := 3) (H := (1, zD) :: (0, pr t p) :: rowH eD 25 2 parts) (s := ⟨#[38]⟩) (n := (parts.length : Int)) (m := 256) hL hlim rfl (by omega) hp hs (by omega)
       refine A0l C E rfl ?_
       simp -implicitDefEqProofs [SDe, ctD, ceD, hlen, m3, outD]
      ·rw [if_neg hbig] at heq
       have m3 := C1w (t := t) (nx := 3) (H := (1, zD) :: (0, pr t p) :: rowH eD 25 2 parts) (s := ⟨#[38]⟩) (n := (parts.length : Int)) (m := 256) hL hlim rfl (by omega) hp hs (by omega)
       have m4 := B7k (t := t) (nx := 3) (H := (1, zD) :: (0, pr t p) :: rowH eD 25 2 parts) (s := ⟨#[38]⟩) (n := (parts.length : Int)) (m := 256) hL hlim rfl hp hs (by omega)
       obtain ⟨H2, hH2⟩ : ∃ H2 : Heap, H2 = (1, zD) :: (0, pr t (p + 1)) :: rowH eD 25 2 parts := ⟨_, rfl⟩
       have hu : upd ((1, zD) :: (0, pr t p) :: rowH eD 25 2 parts) 0 (pr t (p + 1)) = H2 := by rw [hH2]; simp [upd]
       rw [hu] at m3
       have l20 : Abs.look H2 0 = some (pr t (p + 1)) := by rw [hH2]; rfl
       have l21 : Abs.look H2 1 = some zD := by rw [hH2]; rfl
       obtain ⟨Rn, hRn⟩ : ∃ Rn, Rn = A6d L (desS L n) (p + 1) parts := ⟨_, rfl⟩
       have hl := KM.lift (htm (i := p + 1) (by omega) (parts := parts) (by omega)) (H := H2) (b := 2) (NX := 3) l20 (by rw [hH2]; exact ((A0n.head' eD 25 2 parts).cons (by omega)).cons (by omega)) (by omega) (by omega) (fun parts' p h => (tfw h (by omega)).2.2.1)
       rw [<- hRn] at heq hl
       have C' := A0z.nil.ctxH (.cons (E3v hl (D5x (by omega))) HC) mixed
       have E' := (A5z.cons (E3w hl) HE).ok
       cases hRn' : Rn with
       | error e =>
        rw [hRn'] at heq C' E'
        simp only at heq
        rw [<- heq] at hR
        simp only at hR
        rw [hR]
        have m5 := C7e [.ptr 0 0, rowP eD 2 parts, .t (iv (64 - (n : Int)))] H2 3 (errC e)
        refine A0l C' E' rfl ?_
        simp -implicitDefEqProofs [SDe, ctD, ceD, hlen, C1u, hO, eO, m3, m4, m5, outD]
       | ok y =>
        obtain ⟨parts2, p2⟩ := y
        have hf2 := tfw (hRn.symm.trans hRn') (by omega)
        rw [hRn'] at heq C' E'
        simp only at heq
        have m5 := A2d [.ptr 0 0, rowP eD 2 parts, .t (iv (64 - (n : Int)))] H2 3 (rowP eD 3 parts2, B1h t H2 2 3 parts parts2 p2, 4)
        refine A0l C' E' rfl ?_
        simp -implicitDefEqProofs [SDe, ctD, ceD, hlen, C1u, hO, eO, m3, m4, m5]
        refine Abs.Next.mk ⟨f', p2, parts2⟩ ⟨⟨by show p2 <= _; omega, by show L.length - p2 < f'; omega, hf2.2.2.2, hf2.2.2.1, heq⟩, by show f' < f' + 1; omega⟩ ?_
        exact A2k (k := 3) C1v (by omega) (by omega) (by
         have r0 := C7f (t := t) (H := H2) (b := 2) (NX := 3) (p := p2) (parts := parts) (parts' := parts2) l20 (by omega) (by omega)
         have r1 : Abs.look (B1h t H2 2 3 parts parts2 p2) 1 = some zD := (B7i (by omega) (.inl (by omega)) (by omega)).trans l21
         simp -implicitDefEqProofs [A0v, renL, ren, A0m, A0x, under, r0, r1]) (by simp -implicitDefEqProofs [A1c, A0o, ren, under])
   ·rintro ⟨f, p, parts⟩ ⟨hRp, hne⟩
    simp only at hRp hne
    rw [hRp] at hR
    simp only at hR
    rw [hR]
    have hlen : A2f (rowP eD 2 parts) = some (.t (iv (parts.length : Int))) := A7k eD 2 parts
    have fin : ∀ d (s : A0b), d = oneS parts -> Sub Tryz.prog (G q) 1 s ⟨[(4, .ptr 1 0)], [(1, .cells 25 ((encD d).map .t)), (0, pr t p)], 2, 30⟩ -> D2g Tryz.prog (G q) 1 [RV.cell 4 true 4] (outD t (.ok (oneS parts, p))) .ret s := by
     intro d s hd hs
     rw [<- hd]
     refine B2v (rs := [.t (dT d)]) (.inr rfl) hs ?_ rfl rfl rfl
     cases d
     rw [dT, encD]
     rfl
    rcases parts with _ | ⟨d, _ | ⟨d2, r⟩⟩
    ·exact absurd rfl hne
    ·obtain ⟨H3, hH3⟩ : ∃ H3 : Heap, H3 = (1, zD) :: (0, pr t p) :: rowH eD 25 2 [d] := ⟨_, rfl⟩
     have ia : A4v 4 (rowP eD 2 [d]) (.t (.v (.int .i64 0))) = some (.ptr 2 0) := rfl
     have ld : A0s true 4 H3 (.ptr 2 0) = some (.t (dT d)) := ld_d (ty := 25) (by rw [hH3]; simp [rowH, Abs.look, eD])
     have l31 : Abs.look H3 1 = some zD := by rw [hH3]; rfl
     have l30 : Abs.look H3 0 = some (pr t p) := by rw [hH3]; rfl
     have st := st_d (d := d) l31
     refine A0l C E rfl ?_
     simp -implicitDefEqProofs [SDe, hlen, ia]
     rw [<- hH3, ld, ifSome_some, st, ifSome_some]
     refine fin d _ rfl (D6e (t := t) (by omega) ?_ ?_ rfl)
     ·rw [A0g, if_pos rfl, l31]; rfl
     ·rw [A0g, if_neg (by omega), l30]
    ·obtain ⟨ps, hps⟩ : ∃ ps, ps = d :: d2 :: r := ⟨_, rfl⟩
     have hpl : 2 <= ps.length := by rw [hps]; simp
     rw [<- hps] at hlen fin ⊢
     have hne1 : ¬ ps.length = 1 := by omega
     have hne2 : ((ps.length : Int) == 1) = false := by simpa using (by omega : ¬ (ps.length : Int) = 1)
     obtain ⟨H3, hH3⟩ : ∃ H3 : Heap, H3 = (1, zD) :: (0, pr t p) :: rowH eD 25 2 ps := ⟨_, rfl⟩
     have l31 : Abs.look H3 1 = some zD := by rw [hH3]; rfl
     have l30 : Abs.look H3 0 = some (pr t p) := by rw [hH3]; rfl
     have r32 : A0n eD 25 H3 2 ps := by rw [hH3]; exact ((A0n.head' eD 25 2 ps).cons (by omega)).cons (by omega)
     have st := st_a (k := 4) l31 hpl
     refine A0l C E rfl ?_
     simp -implicitDefEqProofs [SDe, hlen, hne1, hne2, -evalK_build, bdK hpl]
     rw [<- hH3, st, ifSome_some]
     refine fin (.mk 4 ⟨#[]⟩ [] ps) _ ?_ (E4a (t := t) (by omega) ?_ ?_ ?_ rfl)
     ·rw [hps]; rfl
     ·exact r32.imp id fun h => by rw [A0g, if_neg (by omega)]; exact h
     ·rw [A0g, if_pos rfl, l31]; rfl
     ·rw [A0g, if_neg (by omega), l30]
theorem D6f (ht : IsS eTok t l) (hlim : l.length <= 1000000) : ∀ n, n <= 64 -> A9f q t l n
 | 0, _ => E0l ht
 | n + 1, hn => fun i ts o h => by
  have hD := D6f ht hlim n (by omega)
  unfold gDes at h
  split at h
  ·split at h
   ·rename_i v hc
    obtain ⟨rfl, hi⟩ := hc
    injection h with h
    subst h
    have := E0m (q := q) ht hlim hD (by omega) hi
    have e : (65 : Int) - ((n + 1 : Nat) : Int) = 64 - (n : Int) := by omega
    rw [e]
    exact this
   ·cases h
  ·cases h
variable {q : Gl} {t : T} {l : List Tok} {i : Nat}
def A7z (L : List KT) (p : Nat) (k : Int) : Bool := match L[p]? with
 | some t => decide (t.1 = k)
 | none => false
def A4f (L : List KT) (p : Nat) : Int := if L.length <= p then 9 else 8
theorem E4b {x : Tok} (hx : l[i]? = some x) (k : Int) : A7z (l.map kt) i k = decide (x.k = k) := by
 unfold A7z
 rw [List.getElem?_map, hx]
 rfl
theorem C9p (hi : l.length <= i) (k : Int) : A7z (l.map kt) i k = false := by
 unfold A7z
 rw [List.getElem?_eq_none (by simpa using hi)]
theorem c0 : Ctx Tryz.prog (G q) (orh [] []) := A0z.nil.ctxH .nil mixed
theorem E5s (ht : IsS eTok t l) (s : ByteArray) : A1k Tryz.prog (G q) 59 [t, iv (i : Int), sv s] (· = bv (isSy (l.map kt) i s.data.toList)) := by
 have hlen : A2f (.t t) = some (.t (iv (l.length : Int))) := ht.len
 refine D9i.runs c0 rfl ?_
 by_cases hi : l.length <= i
 ·rw [C1p hi]
  have hi1 : ¬ ((i : Int) < (l.length : Int)) := by omega
  have hi2 : ¬ i < l.length := by omega
  simp -implicitDefEqProofs [B5k, hlen, hi1, hi2]
 ·obtain ⟨x, hx⟩ : ∃ x, l[i]? = some x := ⟨_, List.getElem?_eq_getElem (by omega)⟩
  rw [D5n hx]
  obtain ⟨r, hr⟩ := C0b ht hx
  have hi1 : ((i : Int) < (l.length : Int)) := by omega
  have hi2 : i < l.length := by omega
  have hts : (x.t == s.toList) = decide (x.t = s.data.toList) := by rw [A4o]; exact Bool.eq_iff_iff.2 (by simp)
  by_cases h5 : x.k = 5
  ·have hb : (x.k == 5) = true := by rw [h5]; rfl
   have hd : decide (x.k = 5) = true := by rw [h5]; rfl
   simp -implicitDefEqProofs [B5k, lp1, hlen, hi1, hi2, hr, hb, hd, hts]
  ·have hb : (x.k == 5) = false := by simpa using h5
   have hd : decide (x.k = 5) = false := by simpa using h5
   simp -implicitDefEqProofs [B5k, lp1, hlen, hi1, hi2, hr, hb, hd]
theorem E0n (ht : IsS eTok t l) (k : Int) : A1k Tryz.prog (G q) 87 [t, iv (i : Int), iv k] (· = bv (A7z (l.map kt) i k)) := by
 have hlen : A2f (.t t) = some (.t (iv (l.length : Int))) := ht.len
 refine D1q.runs c0 rfl ?_
 by_cases hi : l.length <= i
 ·rw [C9p hi]
  have hi1 : ¬ ((i : Int) < (l.length : Int)) := by omega
  have hi2 : ¬ i < l.length := by omega
  simp -implicitDefEqProofs [B3w, hlen, hi1, hi2]
 ·obtain ⟨x, hx⟩ : ∃ x, l[i]? = some x := ⟨_, List.getElem?_eq_getElem (by omega)⟩
  rw [E4b hx]
  obtain ⟨r, hr⟩ := C0b ht hx
  have hi1 : ((i : Int) < (l.length : Int)) := by omega
  have hi2 : i < l.length := by omega
  have hb : (x.k == k) = decide (x.k = k) := rfl
  simp -implicitDefEqProofs [B3w, lp1, hlen, hi1, hi2, hr, hb]
theorem D6g (ht : IsS eTok t l) : A1k Tryz.prog (G q) 88 [t, iv (i : Int)] (· = iv (A4f (l.map kt) i)) := by
 have hlen : A2f (.t t) = some (.t (iv (l.length : Int))) := ht.len
 refine C6n.runs c0 rfl ?_
 unfold A4f
 rw [List.length_map]
 by_cases hi : l.length <= i
 ·have hi1 : ((l.length : Int) <= (i : Int)) := by omega
  simp -implicitDefEqProofs [B0y, hlen, hi1, hi]
 ·have hi1 : ¬ ((l.length : Int) <= (i : Int)) := by omega
  simp -implicitDefEqProofs [B0y, hlen, hi1, hi]
def C7k (n : Nat) : Int := if 256 <= n then 7 else 0
theorem E0o {x : T} {n : Nat} (h : A2f (.t x) = some (.t (iv (n : Int)))) : A1k Tryz.prog (G q) 60 [x] (· = iv (C7k n)) := by
 refine D1r.runs c0 rfl ?_
 unfold C7k
 by_cases hi : 256 <= n
 ·have hi1 : ((256 : Int) <= (n : Int)) := by omega
  simp -implicitDefEqProofs [B3x, h, hi1, hi]
 ·have hi1 : ¬ ((256 : Int) <= (n : Int)) := by omega
  simp -implicitDefEqProofs [B3x, h, hi1, hi]
noncomputable def gRis (l : List Tok) (t : T) (ts : List T) : Option T := open Classical in match ts with
 | [t', .v (.int .i64 i), .v (.string s)] => if t' = t /\ 0 <= i then some (bv (isSy (l.map kt) i.toNat s.data.toList)) else none
 | _ => none
noncomputable def gRkd (l : List Tok) (t : T) (ts : List T) : Option T := open Classical in match ts with
 | [t', .v (.int .i64 i), .v (.int .i64 k)] => if t' = t /\ 0 <= i then some (bv (A7z (l.map kt) i.toNat k)) else none
 | _ => none
noncomputable def gRwr (l : List Tok) (t : T) (ts : List T) : Option T := open Classical in match ts with
 | [t', .v (.int .i64 i)] => if t' = t /\ 0 <= i then some (iv (A4f (l.map kt) i.toNat)) else none
 | _ => none
def gRfu (ts : List T) : Option T := match ts with
 | [x] => match A2f (.t x) with
  | some (.t (.v (.int .i64 n))) => if 0 <= n then some (iv (C7k n.toNat)) else none
  | _ => none
 | _ => none
theorem B1i (ht : IsS eTok t l) : GOK Tryz.prog (G q) 59 (gRis l t) := fun args r h => by
 unfold gRis at h
 split at h
 ·split at h
  ·rename_i hc
   obtain ⟨rfl, h0⟩ := hc
   injection h with h
   subst h
   obtain ⟨n, rfl⟩ := Int.eq_ofNat_of_zero_le h0
   exact E5s ht _
  ·cases h
 ·cases h
theorem C7l (ht : IsS eTok t l) : GOK Tryz.prog (G q) 87 (gRkd l t) := fun args r h => by
 unfold gRkd at h
 split at h
 ·split at h
  ·rename_i hc
   obtain ⟨rfl, h0⟩ := hc
   injection h with h
   subst h
   obtain ⟨n, rfl⟩ := Int.eq_ofNat_of_zero_le h0
   exact E0n ht _
  ·cases h
 ·cases h
theorem C1y (ht : IsS eTok t l) : GOK Tryz.prog (G q) 88 (gRwr l t) := fun args r h => by
 unfold gRwr at h
 split at h
 ·split at h
  ·rename_i hc
   obtain ⟨rfl, h0⟩ := hc
   injection h with h
   subst h
   obtain ⟨n, rfl⟩ := Int.eq_ofNat_of_zero_le h0
   exact D6g ht
  ·cases h
 ·cases h
theorem B7l : GOK Tryz.prog (G q) 60 gRfu := fun args r h => by
 unfold gRfu at h
 split at h
 ·split at h
  ·rename_i hl
   split at h
   ·rename_i h0
    injection h with h
    subst h
    obtain ⟨n, rfl⟩ := Int.eq_ofNat_of_zero_le h0
    exact E0o hl
   ·cases h
  ·cases h
 ·cases h
theorem B4f (s : ByteArray) : gRis l t [t, iv (i : Int), sv s] = some (bv (isSy (l.map kt) i s.data.toList)) := by
 unfold gRis
 simp
theorem C7m (k : Int) : gRkd l t [t, iv (i : Int), iv k] = some (bv (A7z (l.map kt) i k)) := by
 unfold gRkd
 simp
theorem B7m : gRwr l t [t, iv (i : Int)] = some (iv (A4f (l.map kt) i)) := by
 unfold gRwr
 simp
theorem C7n (parts : List Ds) : gRfu [A2h eD parts] = some (iv (C7k parts.length)) := by
 have h := (IsK.tree parts).len
 unfold gRfu
 simp only [h]
 rw [if_pos (by omega), Int.toNat_natCast]
variable {q : Gl} {t : T} {l : List Tok} {i : Nat}
structure Left (I : Nat -> Prop) (w : World) (g : Nat) (I' : Nat -> Prop) (w' : World) : Prop where
 out : A3s w w'
 size : w.heap.size <= w'.heap.size
 same : ∀ h, h < w.heap.size -> h ≠ g -> w'.heap[h]? = w.heap[h]?
 more : ∀ b, I b -> I' b
 new : ∀ b, I' b -> I b \/ w.heap.size <= b \/ b = g
 lt : ∀ b, I' b -> b < w'.heap.size
def E5t (g : Nat) (I' : Nat -> Prop) (w' : World) (e : Ending) : Res Ds -> Prop
 | .ok (d, p) => ∃ v arr, e = .returned v /\ RepT I' w' (dT d) v /\ w'.heap[g]? = some (.cells arr 58 (0, 0)) /\ arr[1]? = some (.int .i64 (p : Int)) /\ ¬ I' g
 | .error er => e = .panicked (errC er)
theorem D6h (ht : IsS eTok t l) (hlim : l.length <= 1000000) {I : Nat -> Prop} {w : World} {g : Nat} {x : Value} (hlt : ∀ b, I b -> b < w.heap.size) (hglob : ∀ g' cs, Abs.look (G q) g' = some cs -> I g' /\ RepG I w cs g')
  (hrep : RepT I w t x) (h1 : x.oneCell' = true) (hi : i <= l.length) (hg : w.heap[g]? = some (.cells #[x, .int .i64 (i : Int)] 58 (0, 0))) (hI : ¬ I g) :
  Calls Tryz.prog 34 #[.pointer (some ⟨g, 0, none⟩), .int .i64 1] w fun e w' => ∃ I', E5t g I' w' e (desS (l.map kt) 64 i) /\ Left I w g I' w' := by
 have h := D6f (q := q) ht hlim 64 (Nat.le_refl _) i [iv 1] _ (C1t (n := 64) hi)
 have one : ∀ b r, Abs.look [(0, pr t i)] b = some r -> b = 0 /\ r = pr t i := by
  intro b r hb
  simp only [Abs.look] at hb
  split at hb
  ·rename_i e; injection hb with hb; exact ⟨e.symm, hb.symm⟩
  ·cases hb
 have hok : A1h Tryz.prog (G q) ⟨I, fun _ => g, 1⟩ [(0, pr t i)] w := by
  refine ⟨hlt, fun b r hb => ?_, fun b r hb => hI, fun b b' r r' hb hb' _ => by rw [(one b r hb).1, (one b' r' hb').1], fun b r hb => by rw [(one b r hb).1]; exact Nat.lt_succ_self _, hglob⟩
  obtain ⟨rfl, rfl⟩ := one b r hb
  refine ⟨_, hg, by simp, fun j c hj => ?_⟩
  rcases j with _ | _ | j
  ·simp only [List.getElem?_cons_zero, Option.some.injEq] at hj
   subst hj
   exact ⟨x, rfl, h1, by simp only [RepV]; exact hrep⟩
  ·simp only [List.getElem?_cons_succ, List.getElem?_cons_zero, Option.some.injEq] at hj
   subst hj
   exact ⟨.int .i64 (i : Int), rfl, rfl, by simp only [RepV, RepT]⟩
  ·simp at hj
 have hargs : A0q Tryz.prog ⟨I, fun _ => g, 1⟩ w (.ptr 0 0 :: [iv 1].map .t) (#[Value.pointer (some ⟨g, 0, none⟩), .int .i64 1] : Array Value).toList := by
  simp only [List.map_cons, List.map_nil, A0q, RepV, RepT]
  exact ⟨_, _, rfl, ⟨by omega, rfl⟩, _, _, rfl, rfl, rfl⟩
 have hmine : ∀ k, Mine ⟨I, fun _ => g, 1⟩ [(0, pr t i)] k -> k = g := fun k ⟨_, _, _, e⟩ => e.symm
 cases hd : desS (l.map kt) 64 i with
 | error er =>
  rw [hd] at h
  refine ((show A8z _ _ _ _ _ _ _ _ from h).2 ⟨I, fun _ => g, 1⟩ w _ hok rfl hargs).mono ?_
  rintro e w' ⟨L', rfl, hok', _, hm, hx⟩
  refine ⟨L'.I, rfl, hx.outer, hx.size, fun k hk hne => hx.same k hk fun hh => hne (hmine k hh), hx.more, fun b hb => ?_, hok'.lt⟩
  rcases hx.new b hb with h2 | h2 | h2
  ·exact .inl h2
  ·exact .inr (.inl h2)
  ·exact .inr (.inr (hmine b h2))
 | ok y =>
  obtain ⟨d, p⟩ := y
  rw [hd] at h
  refine ((show A1d _ _ _ _ _ _ _ _ _ from h).2 ⟨I, fun _ => g, 1⟩ w _ hok rfl hargs).mono ?_
  rintro e w' ⟨v, L', rfl, hv, hok', _, hm, hx⟩
  have hμ : L'.μ 0 = g := hm.μ 0 (by show 0 < 1; omega)
  obtain ⟨arr, ha, hl, hc⟩ := hok'.rep 0 _ rfl
  rw [hμ] at ha
  obtain ⟨x1, hx1, _, hr1⟩ := hc 1 _ rfl
  simp only [RepV, RepT] at hr1 hv
  subst hr1
  have hna : ¬ L'.I g := by have := hok'.apart 0 _ rfl; rwa [hμ] at this
  refine ⟨L'.I, ⟨v, arr, rfl, by simp only [RepT]; exact hv, ha, hx1, hna⟩, hx.outer, hx.size, fun k hk hne => hx.same k hk fun hh => hne (hmine k hh), hx.more, fun b hb => ?_, hok'.lt⟩
  rcases hx.new b hb with h2 | h2 | h2
  ·exact .inl h2
  ·exact .inr (.inl h2)
  ·exact .inr (.inr (hmine b h2))
end Go.Proofs.YtjkkgbdoeaihmaaGreatDoor
