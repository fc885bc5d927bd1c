/-
 Auxiliary facts. No statement of the program stands here.
-/
import Derived.Test.YtjkkgbdoeaihmaaGreatDoorUD3Q24
namespace Go.Proofs.YtjkkgbdoeaihmaaGreatDoor
set_option linter.unusedSimpArgs false
set_option linter.unusedVariables false
open Go Go.Abs
variable {q : Gl} {t : T} {l : List Tok} {i : Nat}
section
variable (a b c d : T) (X : Row) (R H : Heap) (kids : List Ds) (b3 : Nat)
theorem sl23 : A1b 1 ((3, X) :: (2, .cells 25 [.t a, .t b, .t c, .t d]) :: R) (.ptr 2 3) (rowP eD b3 kids) = some ((3, X) :: (2, .cells 25 [.t a, .t b, .t c, rowP eD b3 kids]) :: R) := by cases kids <;> rfl
theorem ll23 : A0s false 1 ((3, X) :: (2, .cells 25 [.t a, .t b, .t c, rowP eD b3 kids]) :: R) (.ptr 2 3) = some (rowP eD b3 kids) := by cases kids <;> rfl
theorem sl20 (k : Int) (w : PV) : A1b 1 ((3, X) :: (2, .cells 25 [.t a, .t b, .t c, w]) :: R) (.ptr 2 0) (.t (iv k)) = some ((3, X) :: (2, .cells 25 [.t (iv k), .t b, .t c, w]) :: R) := rfl
end
theorem tsD (d : Ds) : B6g 25 4 [.int .i64 0, .string ⟨#[]⟩, .slice none 0 0, .slice none 0 0] 1 [(0, .t (dT d))] = some (.t (.sl 1 (encD d))) := by
 cases d
 rw [dT, encD]
 rfl
theorem E1x {H : Heap} {b ty : Nat} {x0 x1 x2 x3 : PV} (h : Abs.look H b = some (.cells ty [x0, x1, x2, x3])) (k b4 : Nat) (kids : List Ds) : A1b 1 H (.ptr b 3) (rowP eD b4 kids) = some (upd H b (.cells ty [x0, x1, x2, rowP eD b4 kids])) := by
 cases kids <;> simp only [A1b, rowP, h] <;> rfl
structure Lt where
 op : Int
 kids : List Ds
 p : Nat
abbrev zD : Row := .cells 25 [.t (iv 0), .t (sv ⟨#[]⟩), .t nilS, .t nilS]
def SLt (t : T) (a : Lt) : A0b := ⟨[(5, .ptr 2 0), (4, .ptr 1 0), (0, .ptr 0 0)], [(2, .cells 25 [.t (iv a.op), .t (sv ⟨#[]⟩), .t nilS, .t (A2h eD a.kids)]), (1, zD), (0, pr t a.p)], 3, 34⟩
def outL (t : T) : Res Ds -> Out
 | .error e => .pan (errC e)
 | .ok (d, p) => .ret (.t (dT d)) [(2, .cells 25 ((encD d).map .t)), (1, .cells 25 ((encD d).map .t)), (0, pr t p)] 3
theorem E0e {L : List KT} {n i p : Nat} {kids : List Ds} (h : A3x L n i = .ok (kids, p)) : kids ≠ [] := by
 unfold A3x at h
 cases hd : desS L n i with
 | error e => rw [hd] at h; cases h
 | ok x =>
  rw [hd] at h
  have key : ∀ (f p : Nat) (ks ks' : List Ds) (p' : Nat), itS L (desS L n) f p ks = .ok (ks', p') -> ks ≠ [] -> ks' ≠ [] := by
   intro f
   induction f with
   | zero => intro p ks ks' p' h; cases h
   | succ f ih =>
    intro p ks ks' p' h hk
    rw [itS] at h
    split at h
    ·split at h
     ·cases h
     ·split at h
      ·cases h
      ·exact ih _ _ _ _ h (by simp)
    ·injection h with h; injection h with e1 _; subst e1; exact hk
  exact key _ _ _ _ _ h (by simp)
theorem PM.outL {P : Program} {G : A0t} {f : FuncId} {ts : List T} {R : Res Ds} (h : B7f P G f (.ptr 0 0 :: ts.map .t) [(0, pr t i)] 1 (outL t R)) : PM P G t f i ts (resP dT R) := by
 cases R with
 | error e => exact h
 | ok x => exact PM.ret h rfl
section
variable {n : Nat} (ht : IsS eTok t l) (hlim : l.length <= 1000000) (hD : A9f q t l n) (hF : Fwd (l.map kt) (desS (l.map kt) n)) (hn : n <= 64)
include ht hlim hD hF hn
theorem E0f (hi : i <= l.length) : PM Tryz.prog (G q) t 84 i [iv (64 - (n : Int))] (resP dT (lstS (l.map kt) (desS (l.map kt) n) i)) := by
 have C := ctxL ht hlim hD hF hn
 have E := panL ht hlim hD hF hn
 obtain ⟨L, hL⟩ : ∃ L, L = l.map kt := ⟨_, rfl⟩
 have hLl : L.length = l.length := by rw [hL, List.length_map]
 have hgi : ∀ p, p <= l.length -> A9e l n p [iv (64 - (n : Int))] = some (resP (A2h eD) (A3x L n p)) := fun p hp => by rw [C4v hp, hL]
 have gd : ∀ {p : Nat}, p <= l.length -> gDes l n p [iv (65 - (n : Int))] = some (resP dT (desS L n p)) := fun hp => by rw [C1t hp, hL]
 rw [<- hL]
 cases hx : l[i]? with
 | none =>
  have hge : l.length <= i := by simpa using hx
  have e1 : lstS L (desS L n) i = .error 9 := by unfold lstS; rw [if_pos (by omega)]
  rw [e1]
  have h1 : ∀ R : Row, eP t (A2n l) [.ptr 0 0] [(1, R), (0, pr t i)] 2 = some (errC 9) := fun R => A4b (ts := []) rfl (by omega) (by simp [A2n, hx])
  refine A7g.callO rfl ?_
  unfold A5e
  refine A0k C E rfl ?_
  simp -implicitDefEqProofs
  refine A0k C E rfl ?_
  simp -implicitDefEqProofs [ctL, ceL, h1, resP, outP]
 | some x =>
  have hlt : i < l.length := (List.getElem?_eq_some_iff.1 hx).1
  have h1 : hP t (A2n l) [.ptr 0 0] [(1, zD), (0, pr t i)] 2 = some (.t (.ag (eTok.enc x)), [(1, zD), (0, pr t i)], 2) := A3g (ts := []) rfl (by omega) (by simp [A2n, hx])
  have h2 : eP t (A2n l) [.ptr 0 0] [(1, zD), (0, pr t i)] 2 = none := A3i (ts := []) (x := (.ag (eTok.enc x), i)) rfl (by simp [A2n, hx])
  have h3 : ∀ X Y : Row, hP t (gIs l) [.ptr 0 0, .t (sv ⟨#[62]⟩)] [(2, X), (1, Y), (0, pr t i)] 3 = some (.t (bv (isSy L i [62])), [(2, X), (1, Y), (0, pr t i)], 3) := fun X Y => by
   rw [hL]; exact A3g (ts := [sv ⟨#[62]⟩]) rfl (by omega) rfl
  have h4 : ∀ X Y : Row, eP t (gIs l) [.ptr 0 0, .t (sv ⟨#[62]⟩)] [(2, X), (1, Y), (0, pr t i)] 3 = none := fun X Y =>
   A3i (ts := [sv ⟨#[62]⟩]) (x := (bv (isSy (l.map kt) i [62]), i)) rfl rfl
  have h5 : ∀ (X Y : Row) p nx, 0 < nx -> p <= l.length -> ∀ p', A3v L p [62] = .ok p' -> hP t (B2w l) [.ptr 0 0, .t (sv ⟨#[62]⟩)] [(2, X), (1, Y), (0, pr t p)] nx = some (.t (.tu []), [(2, X), (1, Y), (0, pr t p')], nx) := fun X Y p nx hnx hp p' h => by
   rw [hL] at h
   exact A3g (ts := [sv ⟨#[62]⟩]) rfl hnx ((if_pos (by omega)).trans (by show some (skR (A3v (l.map kt) p [62])) = _; rw [h]; rfl))
  have h6 : ∀ (X Y : Row) p nx, 0 < nx -> p <= l.length -> ∀ e, A3v L p [62] = .error e -> eP t (B2w l) [.ptr 0 0, .t (sv ⟨#[62]⟩)] [(2, X), (1, Y), (0, pr t p)] nx = some (errC e) := fun X Y p nx hnx hp e h => by
   rw [hL] at h
   exact A4b (ts := [sv ⟨#[62]⟩]) rfl hnx ((if_pos (by omega)).trans (by show some (skR (A3v (l.map kt) p [62])) = _; rw [h]; rfl))
  have e0 : isSy L i [62] = false -> lstS L (desS L n) i = match A3x L n i with
    | .error e => .error e
    | .ok (kids, p2) => if isSy L p2 [124] then (if 256 <= kids.length then .error 7 else match desS L n (p2 + 1) with
      | .error e => .error e
      | .ok (d', p3) => A2x L [62] 7 (kids ++ [d']) p3)
     else A2x L [62] 6 kids p2 := fun hs => by
   unfold lstS A3x
   rw [if_neg (by omega), hs, if_neg (by simp)]
   cases desS L n i <;> rfl
  obtain ⟨R, hR⟩ : ∃ R, R = lstS L (desS L n) i := ⟨_, rfl⟩
  rw [<- hR] at e0 ⊢
  refine PM.outL (A7g.callO rfl ?_)
  unfold A5e
  refine A0k C E rfl ?_
  simp -implicitDefEqProofs
  refine A0k C E rfl ?_
  simp -implicitDefEqProofs [ctL, ceL, h1, h2]
  refine A0k C E rfl ?_
  simp -implicitDefEqProofs [-evalK_build, bd1, sd2]
  refine A2g (α := Lt) (SLt t) (fun a => R = A2x L [62] a.op a.kids a.p /\ a.p <= l.length) (fun _ => rfl) ?_ ?_
  ·cases hs : isSy L i [62] with
   | true =>
    have e1 : R = A2x L [62] 6 [] i := by rw [hR]; unfold lstS; rw [if_neg (by omega), if_pos hs]
    rw [hs] at h3
    refine A0l C E rfl ?_
    simp -implicitDefEqProofs [ctL, ceL, h3, h4]
    exact Abs.Next.mk ⟨6, [], i⟩ ⟨e1, hi⟩ (A0e rfl rfl (by simp -implicitDefEqProofs [SLt]) (by simp -implicitDefEqProofs [SLt]; rfl))
   | false =>
    have e0 := e0 hs
    rw [hs] at h3
    refine A0k C E rfl ?_
    simp -implicitDefEqProofs [ctL, ceL, h3, h4]
    refine A1t (t := true) rfl ?_
    simp only [if_true]
    cases hit : A3x L n i with
    | error e =>
     rw [hit] at e0
     simp only at e0
     rw [e0]
     have h7 : ∀ X Y : Row, eP t (A9e l n) [.ptr 0 0, .t (iv (64 - (n : Int)))] [(2, X), (1, Y), (0, pr t i)] 3 = some (errC e) := fun X Y =>
      A4b (ts := [iv (64 - (n : Int))]) rfl (by omega) (by rw [hgi i hi, hit]; rfl)
     refine A0k C E rfl ?_
     simp -implicitDefEqProofs [ctL, ceL, h7, outL]
    | ok y =>
     obtain ⟨kids, p2⟩ := y
     rw [hit] at e0
     simp only at e0
     have hfw := C4u (by rw [hL]; exact hF) hit
     rw [hLl] at hfw
     obtain ⟨hip, hp2, hkl⟩ := hfw
     have hne : kids ≠ [] := E0e hit
     have hlift := fun X Y => D2i (q := q) ht hlim hD hF hn hi (by rw [<- hL]; exact hit) hne X Y
     have h8 : ∀ X Y : Row, eP t (A9e l n) [.ptr 0 0, .t (iv (64 - (n : Int)))] [(2, X), (1, Y), (0, pr t i)] 3 = none := fun X Y =>
      A3i (ts := [iv (64 - (n : Int))]) (x := (A2h eD kids, p2)) rfl (by rw [hgi i hi, hit]; rfl)
     have CI := A0z.nil.ctxH (.cons (hlift (.cells 25 [.t (iv 6), .t (sv ⟨#[]⟩), .t nilS, .t nilS]) zD) .nil) mixed
     have ho := fun o => A2d [.ptr 0 0, .t (iv (64 - (n : Int)))] [(2, .cells 25 [.t (iv 6), .t (sv ⟨#[]⟩), .t nilS, .t nilS]), (1, zD), (0, pr t i)] 3 o
     refine A0k CI E rfl ?_
     simp -implicitDefEqProofs [ceL, h8, ho, sl23]
     obtain ⟨H3, hH3⟩ : ∃ H3 : Heap, H3 = [(3, A3h eD 25 kids), (2, .cells 25 [.t (iv 6), .t (sv ⟨#[]⟩), .t nilS, rowP eD 3 kids]), (1, zD), (0, pr t p2)] := ⟨_, rfl⟩
     have hl0 : Abs.look H3 0 = some (pr t p2) := by rw [hH3]; rfl
     have hu : ∀ p', upd H3 0 (pr t p') = [(3, A3h eD 25 kids), (2, .cells 25 [.t (iv 6), .t (sv ⟨#[]⟩), .t nilS, rowP eD 3 kids]), (1, zD), (0, pr t p')] := fun p' => by rw [hH3]; rfl
     have hlen : A2f (rowP eD 3 kids) = some (.t (iv (kids.length : Int))) := A7k eD 3 kids
     have gm : A4e l p2 [sv ⟨#[124]⟩, iv (kids.length : Int), iv 256] = some (B4d (isSy L p2 [124]) (kids.length : Int) 256 p2) := by rw [hL]; exact if_pos (by omega)
     cases hs2 : isSy L p2 [124] with
     | false =>
      rw [hs2] at gm e0
      simp only [Bool.false_eq_true, if_false] at e0
      have m1 := A3g (t := t) (g := A4e l) (b := 0) (nx := 4) (H := H3) hl0 (by omega) (gm.trans rfl : _ = some (.ok (bv false, p2)))
      have m2 := A3i (t := t) (g := A4e l) (b := 0) (nx := 4) (H := H3) hl0 (gm.trans rfl : _ = some (.ok (bv false, p2)))
      rw [hu] at m1
      rw [hH3] at m1 m2
      simp only [List.map_cons, List.map_nil] at m1 m2
      refine A0l C E rfl ?_
      simp -implicitDefEqProofs [ctL, ceL, ll23, hlen, m1, m2]
      refine Abs.Next.mk ⟨6, kids, p2⟩ ⟨e0, hp2⟩ ?_
      exact B7h (b3 := 3) (by omega) (.inr rfl) (by omega) rfl rfl rfl rfl rfl rfl
     | true =>
      rw [hs2] at gm e0
      simp only [if_true] at e0
      have hpl : p2 < l.length := by have := A1q hs2; omega
      by_cases hbig : 256 <= kids.length
      ·rw [if_pos hbig] at e0
       have gm' : A4e l p2 [sv ⟨#[124]⟩, iv (kids.length : Int), iv 256] = some (.error 7) := by rw [gm, B4d, if_pos rfl, if_pos (by omega)]
       have m3 := A4b (t := t) (g := A4e l) (b := 0) (nx := 4) (H := H3) hl0 (by omega) gm'
       rw [hH3] at m3
       simp only [List.map_cons, List.map_nil] at m3
       rw [e0]
       refine A0k C E rfl ?_
       simp -implicitDefEqProofs [ceL, ll23, hlen, m3, outL]
      ·rw [if_neg hbig] at e0
       have gm' : A4e l p2 [sv ⟨#[124]⟩, iv (kids.length : Int), iv 256] = some (.ok (bv true, p2 + 1)) := by rw [gm, B4d, if_pos rfl, if_neg (by omega)]
       have m1 := A3g (t := t) (g := A4e l) (b := 0) (nx := 4) (H := H3) hl0 (by omega) gm'
       have m2 := A3i (t := t) (g := A4e l) (b := 0) (nx := 4) (H := H3) hl0 gm'
       rw [hu] at m1
       rw [hH3] at m1 m2
       simp only [List.map_cons, List.map_nil] at m1 m2
       refine A0k C E rfl ?_
       simp -implicitDefEqProofs [ctL, ceL, ll23, hlen, m1, m2]
       refine A1t (t := true) rfl ?_
       simp only [if_true]
       refine A0k C E rfl ?_
       simp -implicitDefEqProofs [sl20]
       obtain ⟨H4, hH4⟩ : ∃ H4 : Nat -> Heap, H4 = fun p => [(3, A3h eD 25 kids), (2, .cells 25 [.t (iv 7), .t (sv ⟨#[]⟩), .t nilS, rowP eD 3 kids]), (1, zD), (0, pr t p)] := ⟨_, rfl⟩
       have hk0 : ∀ p, Abs.look (H4 p) 0 = some (pr t p) := fun p => by rw [hH4]; rfl
       have hk : ∀ p p', upd (H4 p) 0 (pr t p') = H4 p' := fun p p' => by rw [hH4]; rfl
       have ev : IntKind.i64.wrap (64 - (n : Int) + 1) = 65 - (n : Int) := by
        rw [A4h (by omega) (by omega)]; omega
       cases hd2 : desS L n (p2 + 1) with
       | error e =>
        rw [hd2] at e0
        simp only at e0
        have m3 := A4b (t := t) (g := gDes l n) (b := 0) (nx := 4) (hk0 (p2 + 1)) (by omega) (by rw [gd (by omega), hd2]; rfl)
        rw [hH4] at m3
        simp only [List.map_cons, List.map_nil] at m3
        rw [e0]
        refine C4m C E ?_
        simp -implicitDefEqProofs [ctL, ceL, ll23, ev, m3, outL]
       | ok y =>
        obtain ⟨d2, p3⟩ := y
        rw [hd2] at e0
        simp only at e0
        have hf2 := hF _ _ _ (by rw [<- hL]; exact hd2)
        rw [<- hL, hLl] at hf2
        have m3 := A3g (t := t) (g := gDes l n) (b := 0) (nx := 4) (r := dT d2) (i' := p3) (hk0 (p2 + 1)) (by omega) (by rw [gd (by omega), hd2]; rfl)
        have m4 := A3i (t := t) (g := gDes l n) (b := 0) (nx := 4) (x := (dT d2, p3)) (hk0 (p2 + 1)) (by rw [gd (by omega), hd2]; rfl)
        rw [hk] at m3
        have r3 : A0n eD 25 (H4 p3) 3 kids := .inr (by rw [hH4]; rfl)
        obtain ⟨b4, H5, n5, ap, r5, ne5, hle5, hold, hb5⟩ := A4j (e := eD) (ty := 25) (by' := 72) (nx := 4) (m := [d2]) (src := .t (.sl 1 (encD d2))) r3 (C9d (e := eD) (l := [d2]) (.inr (by simp [slT, eD]))) (by simp; omega) (by simp; omega)
        have ap' : appM 25 4 72 (H4 p3) 4 (rowP eD 3 kids) (.t (.sl 1 (encD d2))) = some (rowP eD b4 (kids ++ [d2]), H5, n5) := ap
        have hl2 : Abs.look H5 2 = some (.cells 25 [.t (iv 7), .t (sv ⟨#[]⟩), .t nilS, rowP eD 3 kids]) := (hold 2 (by omega) (by omega)).trans (by rw [hH4]; rfl)
        have hl1 : Abs.look H5 1 = some zD := (hold 1 (by omega) (by omega)).trans (by rw [hH4]; rfl)
        have hl0' : Abs.look H5 0 = some (pr t p3) := (hold 0 (by omega) (by omega)).trans (hk0 p3)
        have st := E1x hl2 3 b4 (kids ++ [d2])
        rw [hH4] at m3 m4 ap'
        simp only [List.map_cons, List.map_nil] at m3 m4 ap'
        refine C4m C E ?_
        simp -implicitDefEqProofs [ctL, ceL, ll23, ev, m3, m4, tsD, ap', st]
        refine Abs.Next.mk ⟨7, kids ++ [d2], p3⟩ ⟨e0, hf2.2⟩ ?_
        have lk : ∀ k, k ≠ 2 -> Abs.look (upd H5 2 (.cells 25 [.t (iv 7), .t (sv ⟨#[]⟩), .t nilS, rowP eD b4 (kids ++ [d2])])) k = Abs.look H5 k := fun k hk => by rw [A0g, if_neg hk]
        exact B7h (b3 := b4) (by omega) (r5.imp id fun h => by rw [lk _ (by omega)]; exact h) (by omega) (by rw [A0g, if_pos rfl, hl2]; rfl) (by rw [lk _ (by omega), hl1]) (by rw [lk _ (by omega), hl0']) rfl rfl rfl
  ·rintro ⟨op, kids, p⟩ ⟨hR2, hp⟩
   simp only at hR2 hp
   cases hsk : A3v L p [62] with
   | error e =>
    rw [A2x, hsk] at hR2
    simp only at hR2
    rw [hR2]
    have h6' := fun X Y => h6 X Y p 3 (by omega) hp _ hsk
    refine A0l C E rfl ?_
    simp -implicitDefEqProofs [SLt, ctL, ceL, h6', outL]
   | ok p3 =>
    rw [A2x, hsk] at hR2
    simp only at hR2
    rw [hR2]
    have h5' := fun X Y => h5 X Y p 3 (by omega) hp _ hsk
    refine A0c C ?_
    simp -implicitDefEqProofs [SLt, ctL, h5', ld4, sd1]
    have ed : (encD (.mk op ⟨#[]⟩ [] kids)).map PV.t = [.t (iv op), .t (sv ⟨#[]⟩), .t nilS, .t (A2h eD kids)] := by rw [A4p]; rfl
    exact C4q ⟨.inr rfl, _, _, Sub.refl _, rfl, by rw [dT, A4p]; rfl, by rw [ed], rfl⟩
end
end Go.Proofs.YtjkkgbdoeaihmaaGreatDoor
namespace Go.Abs
set_option linter.unusedSimpArgs false
set_option linter.unusedVariables false
open Go
section
variable {P : Program} {G : A0t}
theorem A8z.lift {f : FuncId} {ps : List PV} {H : Heap} {nx : Nat} {ch : A2m} (h : A8z P G f ps H nx ch []) (σ : Nat -> Nat) (NX : Nat) (Hb : Heap)
  (hσ : ∀ b, b < nx -> σ b < NX) (hinj : ∀ b c, b < nx -> c < nx -> σ b = σ c -> b = c)
  (hH : ∀ q ∈ H, look Hb (σ q.1) = some (A0v σ q.2) /\ q.1 < nx /\ A0m nx q.2 = true) (hps : A0x nx ps = true) :
  A8z P G f (renL σ ps) Hb NX ch [] := by
 refine ⟨h.1, fun L w us hok hnx hargs => ?_⟩
 let L0 : Loc := ⟨L.I, fun b => L.μ (σ b), nx⟩
 have hok0 : A1h P G L0 H w := by
  refine ⟨hok.lt, fun b x hb => ?_, fun b x hb => ?_, fun b b' x x' hb hb' e => ?_, fun b x hb => (hH _ (A0f hb)).2.1, hok.glob⟩
  ·obtain ⟨h1, h2, h3⟩ := hH _ (A0f hb)
   have := hok.rep _ _ h1
   cases x with
   | cells ty cs =>
    obtain ⟨arr, ha, hl, hc⟩ := this
    refine ⟨arr, ha, by rw [A6t] at hl; exact hl, fun j c hj => ?_⟩
    obtain ⟨v, hv, h1v, hrv⟩ := hc j (ren σ c) (by rw [A5t, hj]; rfl)
    exact ⟨v, hv, h1v, B3r c (A4c h3 hj) hrv⟩
   | iter t pos => exact this
  ·exact hok.apart _ _ (hH _ (A0f hb)).1
  ·exact hinj b b' (hH _ (A0f hb)).2.1 (hH _ (A0f hb')).2.1 (hok.inj _ _ _ _ (hH _ (A0f hb)).1 (hH _ (A0f hb')).1 e)
 have mine0 : ∀ g, Mine L0 H g -> Mine L Hb g := fun g ⟨b, x, hb, e⟩ => ⟨σ b, _, (hH _ (A0f hb)).1, e⟩
 refine (h.2 L0 w us hok0 rfl (A8t ps hps hargs)).mono ?_
 rintro e w' ⟨L1, rfl, hok1, hnx1, hm1, hx1⟩
 have hmono : Mono L w ⟨L1.I, L.μ, NX⟩ w' := ⟨hm1.keeps, by rw [hnx]; exact Nat.le_refl _, fun _ _ => rfl, hm1.size, hm1.shape⟩
 refine ⟨⟨L1.I, L.μ, NX⟩, rfl, ⟨hok1.lt, fun _ _ hb => (by cases hb), fun _ _ hb => (by cases hb), fun _ _ _ _ hb => (by cases hb), fun _ _ hb => (by cases hb), hok1.glob⟩, rfl, hmono, ?_⟩
 refine ⟨hx1.size, fun g hg hm => hx1.same g hg (fun h2 => hm (mine0 g h2)), hx1.more, fun g hg => ?_, fun g ⟨b, x, hb, _⟩ => (by cases hb), hx1.shape, hx1.outer⟩
 rcases hx1.new g hg with h2 | h2 | h2
 ·exact .inl h2
 ·exact .inr (.inl h2)
 ·exact .inr (.inr (mine0 g h2))
noncomputable def eOne (ps0 : List PV) (H0 : Heap) (nx0 : Nat) (ch : A2m) (ps : List PV) (H : Heap) (nx : Nat) : Option A2m :=
 open Classical in if ps = ps0 /\ H = H0 /\ nx = nx0 then some ch else none
theorem C7e (ps : List PV) (H : Heap) (nx : Nat) (ch : A2m) : eOne ps H nx ch ps H nx = some ch := by
 unfold eOne
 rw [if_pos ⟨rfl, rfl, rfl⟩]
theorem E3u {f : FuncId} {ps : List PV} {H : Heap} {nx : Nat} {ch : A2m} (h : A8z P G f ps H nx ch []) : EOK P G f (eOne ps H nx ch) := fun ps1 H1 nx1 ch1 h1 => by
 unfold eOne at h1
 split at h1
 ·rename_i hc
  obtain ⟨rfl, rfl, rfl⟩ := hc
  injection h1 with h1
  subst h1
  exact h
 ·cases h1
noncomputable def hO (ps0 : List PV) (H0 : Heap) (nx0 : Nat) : Out -> List PV -> Heap -> Nat -> Option (PV × Heap × Nat)
 | .ret r H' nx' => hOne ps0 H0 nx0 (r, H', nx')
 | .pan _ => fun _ _ _ => none
noncomputable def eO (ps0 : List PV) (H0 : Heap) (nx0 : Nat) : Out -> List PV -> Heap -> Nat -> Option A2m
 | .ret _ _ _ => fun _ _ _ => none
 | .pan ch => eOne ps0 H0 nx0 ch
def E1y (nx0 : Nat) (H0 : Heap) : Out -> Prop
 | .ret _ H' nx' => (∀ b x, look H0 b = some x -> b < nx0) -> ∀ b x, look H' b = some x -> b < nx'
 | .pan _ => True
theorem E3v {f : FuncId} {ps : List PV} {H : Heap} {nx : Nat} {o : Out} (h : B7f P G f ps H nx o) (hf : E1y nx H o) : HOK P G f (hO ps H nx o) := by
 cases o with
 | ret r H' nx' => exact A2q h hf
 | pan ch => exact ⟨fun _ _ _ _ _ _ h => (by cases h), fun _ _ _ _ _ _ h => (by cases h)⟩
theorem E3w {f : FuncId} {ps : List PV} {H : Heap} {nx : Nat} {o : Out} (h : B7f P G f ps H nx o) : EOK P G f (eO ps H nx o) := by
 cases o with
 | ret r H' nx' => exact fun _ _ _ _ h => (by cases h)
 | pan ch => exact E3u h
end
end Go.Abs
namespace Go.Proofs.YtjkkgbdoeaihmaaGreatDoor
set_option linter.unusedSimpArgs false
set_option linter.unusedVariables false
open Go Go.Abs
variable {q : Gl} {t : T} {l : List Tok} {i : Nat}
theorem D5v {α : Type} {e : Enc α} {ty ty' by' b k nx : Nat} {H : Heap} {l : List α} {cs : List PV} (h : A0n e ty H b l) (hk : Abs.look H k = some (.cells ty' cs)) (hc : cs.length = e.z)
  (hb : (l.length + 1) * by' <= 140737488355328) (hb2 : l.length + 1 <= 9223372036854775807) :
  ∃ H', appM ty e.z by' H nx (rowP e b l) (.row k 0 1 e.z) = some (.row nx 0 (l.length + 1) e.z, H', nx + 1) /\ Abs.look H' nx = some (.cells ty ((l.flatMap e.enc).map .t ++ cs)) /\ ∀ c, c ≠ nx -> c ≠ b -> Abs.look H' c = Abs.look H c := by
 have hs : srcP H e.z (.row k 0 1 e.z) = some (1, cs) := by
  have tk : List.take e.z cs = cs := List.take_of_length_le (by rw [hc]; exact Nat.le_refl _)
  simp [srcP, hk, hc, tk]
 cases l with
 | nil =>
  simp only [List.length_nil, Nat.zero_add, Nat.one_mul] at hb hb2
  refine ⟨(nx, .cells ty cs) :: H, ?_, by simp [Abs.look], fun c h1 _ => by rw [look_cons, if_neg (Ne.symm h1)]⟩
  simp [appM, hs, rowP, hb]
 | cons x l =>
  have h := h.resolve_left (by simp)
  have hl : (((x :: l).flatMap e.enc).map PV.t).length = (x :: l).length * e.z := by rw [List.length_map, A6x]
  refine ⟨(nx, .cells ty (((x :: l).flatMap e.enc).map .t ++ cs)) :: rem H b, ?_, by simp [Abs.look], fun c h1 h2 => by rw [look_cons, if_neg (Ne.symm h1), A1s, if_neg h2]⟩
  simp only [appM, hs, rowP, h, A3h, hl, true_and, if_pos (And.intro hb hb2)]
theorem D5w {α : Type} (e : Enc α) (b : Nat) (l : List α) (x : α) : rowP e b (l ++ [x]) = .row b 0 (l.length + 1) e.z := by
 cases l with
 | nil => rfl
 | cons y l => simp [rowP]
theorem E0g {H : Heap} {F : List Nat} {b o n z : Nat} (hb : b ∉ F) : frzP H F (.row b o n z) = .row b o n z := by
 unfold frzP
 split
 ·rename_i x F' hx
  simp only [toT] at hx
  split at hx
  ·split at hx
   ·obtain ⟨ts, _, e⟩ := A0i hx
    injection e with e1 e2
    subst e2
    rw [if_neg]
    simpa using hb
   ·cases hx
  ·cases hx
 ·rfl
theorem B4e {α : Type} {e : Enc α} {ty b : Nat} {H : Heap} {F : List Nat} {l : List α} (h : A0n e ty H b l) (hb : b ∈ F) : frzP H F (rowP e b l) = .t (A2h e l) := by
 unfold frzP
 rw [h.toT]
 have : (B8l b l).all (F.contains ·) = true := by cases l <;> simp [B8l, hb]
 simp only [this, if_true]
theorem B4z : ∀ (F : List Nat) (H : Heap) (k : Nat), k ∉ F -> Abs.look (remAll H F) k = Abs.look H k
 | [], _, _, _ => rfl
 | b :: F, H, k, hk => by
  have e : Abs.look (remAll H (b :: F)) k = Abs.look (remAll (rem H b) F) k := rfl
  rw [e, B4z F _ _ (fun h => hk (List.mem_cons_of_mem _ h)), A1s, if_neg (fun e => hk (by rw [e]; exact List.mem_cons_self))]
theorem B2y {H : Heap} {F : List Nat} {k : Nat} {r : Row} (h : Abs.look H k = some r) (hk : k ∉ F) : Abs.look ((remAll H F).map fun q => (q.1, A7c H F q.2)) k = some (A7c H F r) := by
 rw [A4x, B4z F H k hk, h, Option.map_some]
theorem E0h {B nx n p kn kd : Nat} {v : Int} {env : List (Nat × PV)} {H : Heap} {l : List Ds} {path : List ByteArray} {d : Ds} (hB : B <= 2)
  (hn : Abs.look H kn = some (.cells 25 ((l.flatMap eD.enc).map .t ++ [.t (iv 5), .t (sv ⟨#[]⟩), rowP eStr 3 path, .row kd 0 1 4])))
  (h3 : A0n eStr 9 H 3 path) (hd : Abs.look H kd = some (A3h eD 25 [d])) (h0 : Abs.look H 0 = some (pr t p)) (k1 : 3 < kn) (k2 : 3 < kd) (k3 : kn ≠ kd)
  (e1 : Abs.look env 1 = some (.row kn 0 (l.length + 1) 4)) (e2 : Abs.look env 2 = some (.t (iv v))) (e0 : Abs.look env 0 = some (.ptr 0 0)) :
  Sub Tryz.prog (G q) B ⟨env, H, nx, n⟩ ⟨[(2, .t (iv v)), (1, rowP eD 2 (l ++ [.mk 5 ⟨#[]⟩ path [d]])), (0, .ptr 0 0)], [(0, pr t p)] ++ rowH eD 25 2 (l ++ [.mk 5 ⟨#[]⟩ path [d]]), 3, n⟩ := by
 have hs : Sub Tryz.prog (G q) B ⟨env, H, nx, n⟩ (A0b.frz ⟨env, H, nx, n⟩ [3, kd]) := B6j [3, kd]
 have n1 : kn ∉ [3, kd] := by simp; omega
 have n0 : 0 ∉ [3, kd] := by simp; omega
 refine hs.trans (A2k (k := kn) (R := [(0, pr t p)]) (.inr ?_) (by omega) hB ?_ ?_)
 ·refine (B2y hn n1).trans ?_
  have f1 : frzP H [3, kd] (rowP eStr 3 path) = .t (A2h eStr path) := B4e h3 (by simp)
  have f2 : frzP H [3, kd] (.row kd 0 1 4) = .t (A2h eD [d]) := B4e (e := eD) (ty := 25) (b := kd) (l := [d]) (.inr hd) (by simp)
  have f3 : ∀ cs : List T, (cs.map PV.t).map (frzP H [3, kd]) = cs.map PV.t := fun cs => by rw [List.map_map]; rfl
  simp only [A7c, List.map_append, f3, List.map_cons, List.map_nil, f1, f2, C0c, A3h, List.flatMap_append, List.flatMap_cons, List.flatMap_nil, List.append_nil]
  show _ = some (Row.cells _ (_ ++ (encD (.mk 5 ⟨#[]⟩ path [d])).map PV.t))
  rw [A4p]
  rfl
 ·intro x hx
  simp only [List.mem_singleton] at hx
  subst hx
  refine ⟨(B2y h0 n0).trans ?_, by show 0 < 3; omega, by show 0 ≠ 2; omega, by show 0 ≠ kn; omega, rfl⟩
  simp only [A7c, List.map_cons, List.map_nil, C0c, A0v, renL, ren]
 ·intro x hx
  simp only [A0b.frz, A4x]
  simp only [List.mem_cons, List.not_mem_nil, or_false] at hx
  rcases hx with rfl | rfl | rfl
  ·rw [e2]; exact ⟨rfl, rfl⟩
  ·refine ⟨?_, A0o _ _ _ _ (by omega)⟩
   rw [e1, Option.map_some, E0g n1, A1c, if_pos rfl, D5w]
   rfl
  ·rw [e0]; exact ⟨by simp [frzP, toT, ren], rfl⟩
def outK (t : T) : Res (List Ds) -> Out
 | .error e => .pan (errC e)
 | .ok (parts, p) => .ret (rowP eD 2 parts) ([(0, pr t p)] ++ rowH eD 25 2 parts) 3
abbrev KM (q : Gl) (t : T) (f : FuncId) (i : Nat) (parts : List Ds) (lv : Int) (r : Res (List Ds)) : Prop :=
 B7f Tryz.prog (G q) f [.ptr 0 0, rowP eD 1 parts, .t (iv lv)] ([(0, pr t i)] ++ rowH eD 25 1 parts) 2 (outK t r)
def B1h (t : T) (H : Heap) (b NX : Nat) (parts parts' : List Ds) (p : Nat) : Heap := (NX, A3h eD 25 parts') :: upd (if parts.isEmpty then H else rem H b) 0 (pr t p)
def C1u (t : T) (H : Heap) (b NX : Nat) (parts : List Ds) : Res (List Ds) -> Out
 | .error e => .pan (errC e)
 | .ok (parts', p) => .ret (rowP eD NX parts') (B1h t H b NX parts parts' p) (NX + 1)
theorem KM.lift {f : FuncId} {parts : List Ds} {lv : Int} {r : Res (List Ds)} (h : KM q t f i parts lv r) {H : Heap} {b NX : Nat} (h0 : Abs.look H 0 = some (pr t i)) (hb : A0n eD 25 H b parts) (hb0 : 0 < b) (hlt : b < NX)
  (hne : ∀ parts' p, r = .ok (parts', p) -> parts' ≠ []) : B7f Tryz.prog (G q) f [.ptr 0 0, rowP eD b parts, .t (iv lv)] H NX (C1u t H b NX parts r) := by
 obtain ⟨σ, hσ⟩ : ∃ σ : Nat -> Nat, σ = fun x => if x = 1 then b else x := ⟨_, rfl⟩
 have s0 : σ 0 = 0 := by rw [hσ]; rfl
 have s1 : σ 1 = b := by rw [hσ]; rfl
 have a1 : ∀ x, x < 2 -> σ x < NX := fun x hx => by
  obtain rfl | rfl : x = 0 \/ x = 1 := by omega
  ·rw [s0]; omega
  ·rw [s1]; exact hlt
 have a2 : ∀ x y, x < 2 -> y < 2 -> σ x = σ y -> x = y := fun x y hx hy e => by
  obtain rfl | rfl : x = 0 \/ x = 1 := by omega
  ·obtain rfl | rfl : y = 0 \/ y = 1 := by omega
   ·rfl
   ·rw [s0, s1] at e; omega
  ·obtain rfl | rfl : y = 0 \/ y = 1 := by omega
   ·rw [s0, s1] at e; omega
   ·rfl
 have a3 : ∀ x ∈ [(0, pr t i)] ++ rowH eD 25 1 parts, Abs.look H (σ x.1) = some (A0v σ x.2) /\ x.1 < 2 /\ A0m 2 x.2 = true := fun x hx => by
  rcases List.mem_append.1 hx with hx | hx
  ·simp only [List.mem_singleton] at hx
   subst hx
   refine ⟨?_, by show 0 < 2; omega, rfl⟩
   show Abs.look H (σ 0) = _
   rw [s0, h0]
   rfl
  ·obtain ⟨hn, rfl⟩ := A2p hx
   refine ⟨?_, by show 1 < 2; omega, A0y _ _ _ _⟩
   show Abs.look H (σ 1) = _
   rw [s1, A1e]
   exact hb.resolve_left hn
 have a4 : A0x 2 [.ptr 0 0, rowP eD 1 parts, .t (iv lv)] = true := by simp [A0x, under, A0o]
 have ea : renL σ [.ptr 0 0, rowP eD 1 parts, .t (iv lv)] = [.ptr 0 0, rowP eD b parts, .t (iv lv)] := by simp only [renL, ren, A1c, s0, s1]
 cases r with
 | error e =>
  have h2 := A8z.lift (show A8z _ _ _ _ _ _ _ _ from h) σ NX H a1 a2 a3 a4
  rw [ea] at h2
  exact h2
 | ok x =>
  obtain ⟨parts', p⟩ := x
  have hp' := hne _ _ rfl
  have h2 := A1d.lift (show A1d _ _ _ _ _ _ _ _ _ from h) σ NX H (B1h t H b NX parts parts' p) a1 a2 (by omega) a3 a4 (A0o _ _ _ _ (by omega))
   (fun x hx => by
    rcases List.mem_append.1 hx with hx | hx
    ·simp only [List.mem_singleton] at hx
     subst hx
     exact ⟨by show 0 < 3; omega, rfl⟩
    ·obtain ⟨_, rfl⟩ := A2p hx
     exact ⟨by show 2 < 3; omega, A0y _ _ _ _⟩)
   (fun k x hk => by
    unfold B1h at hk
    rw [look_cons] at hk
    split at hk
    ·rename_i e
     injection hk with hk
     subst hk
     refine .inl ⟨2, A3h eD 25 parts', ?_, by simp [A1n, <- e], by rw [A1e]⟩
     exact (A0n.head' eD 25 2 parts').cons (k := 0) (by omega) |>.resolve_left hp'
    ·rw [A0g] at hk
     split at hk
     ·rename_i e
      refine .inl ⟨0, pr t p, rfl, by rw [e]; simp [A1n, s0], ?_⟩
      obtain ⟨_, _, rfl⟩ := A0i hk
      rfl
     ·rename_i hk0
      refine .inr ?_
      cases parts with
      | nil =>
       refine ⟨hk, fun b0 x0 h0 => ?_⟩
       simp only [rowH, List.append_nil, Abs.look] at h0
       split at h0
       ·rename_i e; rw [<- e, s0]; exact fun e => hk0 e.symm
       ·cases h0
      | cons y r =>
       simp only [List.isEmpty_cons, Bool.false_eq_true, if_false] at hk
       rw [A1s] at hk
       split at hk
       ·cases hk
       ·rename_i hkb
        refine ⟨hk, fun b0 x0 h0 => ?_⟩
        simp only [rowH, List.cons_append, List.nil_append, Abs.look] at h0
        split at h0
        ·rename_i e; rw [<- e, s0]; exact fun e => hk0 e.symm
        ·split at h0
         ·rename_i e; rw [<- e, s1]; exact fun e => hkb e.symm
         ·cases h0)
  rw [ea] at h2
  have e2 : ren (A1n σ 2 NX) (rowP eD 2 parts') = rowP eD NX parts' := by rw [A1c]; rfl
  rw [e2] at h2
  exact h2
theorem C1v {H : Heap} {b NX p : Nat} {parts parts' : List Ds} : A0n eD 25 (B1h t H b NX parts parts' p) NX parts' := .inr (by unfold B1h; rw [look_cons, if_pos rfl])
theorem C7f {H : Heap} {b NX p : Nat} {parts parts' : List Ds} {R : Row} (h0 : Abs.look H 0 = some R) (hb : 0 < b) (hn : 0 < NX) : Abs.look (B1h t H b NX parts parts' p) 0 = some (pr t p) := by
 unfold B1h
 rw [look_cons, if_neg (by omega), A0g, if_pos rfl]
 split
 ·rw [h0]; rfl
 ·rw [A1s, if_neg (by omega), h0]; rfl
theorem B7i {H : Heap} {b NX p k : Nat} {parts parts' : List Ds} (h0 : k ≠ 0) (hb : k ≠ b \/ parts = []) (hn : k ≠ NX) : Abs.look (B1h t H b NX parts parts' p) k = Abs.look H k := by
 unfold B1h
 rw [look_cons, if_neg (Ne.symm hn), A0g, if_neg h0]
 rcases hb with hb | rfl
 ·split
  ·rfl
  ·rw [A1s, if_neg hb]
 ·rfl
theorem D5x {H : Heap} {b NX : Nat} {parts : List Ds} {r : Res (List Ds)} (h0 : 0 < NX) : E1y NX H (C1u t H b NX parts r) := by
 cases r with
 | error e => trivial
 | ok x =>
  intro hf k y hk
  unfold B1h at hk
  rw [look_cons] at hk
  split at hk
  ·omega
  ·rw [A0g] at hk
   split at hk
   ·omega
   ·split at hk
    ·have := hf k y hk; omega
    ·rw [A1s] at hk
     split at hk
     ·cases hk
     ·have := hf k y hk; omega
variable {q : Gl} {t : T} {l : List Tok} {i : Nat}
section
variable {α β : Type} {P : Program} {G : A0t} {B : Nat}
theorem C4x {e : Enc α} {e' : Enc β} {ty ty' b c k nx nx' n : Nat} {l : List α} {l' : List β} {env env' : List (Nat × PV)} {H R : Heap} (h : A0n e ty H k l) (h' : A0n e' ty' H c l') (hb : b < nx') (hB : B <= b) (hc : c < nx') (cb : c ≠ b) (ck : c ≠ k)
  (hR : ∀ q ∈ R, Abs.look H q.1 = some (A0v (fun x => if x = b then k else x) q.2) /\ q.1 < nx' /\ q.1 ≠ b /\ q.1 ≠ k /\ A0m nx' q.2 = true)
  (he : ∀ q ∈ env', Abs.look env q.1 = some (ren (fun x => if x = b then k else x) q.2) /\ under nx' q.2 = true) :
  Sub P G B ⟨env, H, nx, n⟩ ⟨env', R ++ (rowH e' ty' c l' ++ rowH e ty b l), nx', n⟩ := by
 rw [<- List.append_assoc]
 refine A2k h hb hB (fun q hq => ?_) he
 rcases List.mem_append.1 hq with hq | hq
 ·exact hR q hq
 ·obtain ⟨hn, rfl⟩ := A2p hq
  simp only [A1e, A0y]
  exact ⟨h'.resolve_left hn, hc, cb, ck, trivial⟩
theorem A1i {nx n : Nat} {env env' : List (Nat × PV)} {H : Heap} (he : ∀ q ∈ env', Abs.look env q.1 = some q.2) : Sub P G B ⟨env, H, nx, n⟩ ⟨env', H, nx, n⟩ := by
 intro L a w hi
 refine ⟨L, ⟨hi.heap, hi.nx, hi.base, hi.size, hi.defers, fun k p h => hi.env k p (he _ (A0f h))⟩, ?_, fun _ _ => rfl⟩
 exact ⟨Nat.le_refl _, fun _ _ _ => rfl, fun _ h => h, fun _ h => .inl h, fun g ⟨b, r, h, e⟩ => .inr ⟨b, r, h, e⟩, A2o.refl w, A3s.refl w⟩
theorem A0n.right {e : Enc α} {ty b : Nat} {H R : Heap} {l : List α} (h : A0n e ty H b l) (hR : ∀ q ∈ R, q.1 ≠ b) : A0n e ty (R ++ H) b l := by
 induction R with
 | nil => exact h
 | cons q R ih => exact A0n.cons (ih fun x hx => hR x (List.mem_cons_of_mem _ hx)) (hR q List.mem_cons_self)
theorem D5y {e : Enc α} {ty b c : Nat} {l : List α} (h : c ≠ b) : ∀ q ∈ rowH e ty c l, q.1 ≠ b := fun q hq => by
 obtain ⟨_, rfl⟩ := A2p hq
 exact h
end
section
variable {L : List KT} (hL : L = l.map kt) (hlim : l.length <= 1000000) {H : Heap} {p nx : Nat} (h0 : Abs.look H 0 = some (pr t p)) (hnx : 0 < nx) (hp : p <= l.length)
include hL hlim h0 hp
omit h0 in
theorem C7g (k : Int) : B8o l p [iv k] = some (resP sv (A2u L p k)) := by rw [hL]; exact if_pos (by omega)
include hnx in
theorem B5q {k : Int} {s : ByteArray} {p' : Nat} (h : A2u L p k = .ok (s, p')) : hP t (B8o l) [.ptr 0 0, .t (iv k)] H nx = some (.t (sv s), upd H 0 (pr t p'), nx) :=
 A3g (ts := [iv k]) h0 hnx (by rw [C7g hL hlim hp, h]; rfl)
theorem B2z {k : Int} {s : ByteArray} {p' : Nat} (h : A2u L p k = .ok (s, p')) : eP t (B8o l) [.ptr 0 0, .t (iv k)] H nx = none :=
 A3i (ts := [iv k]) (x := (sv s, p')) h0 (by rw [C7g hL hlim hp, h]; rfl)
include hnx in
theorem B5r {k e : Int} (h : A2u L p k = .error e) : eP t (B8o l) [.ptr 0 0, .t (iv k)] H nx = some (errC e) :=
 A4b (ts := [iv k]) h0 hnx (by rw [C7g hL hlim hp, h]; rfl)
omit h0 in
theorem B7j (s : ByteArray) (n m : Int) : A4e l p [sv s, iv n, iv m] = some (B4d (isSy L p s.data.toList) n m p) := by rw [hL]; exact if_pos (by omega)
include hnx in
theorem C7h {s : ByteArray} {n m : Int} (h : isSy L p s.data.toList = false) : hP t (A4e l) [.ptr 0 0, .t (sv s), .t (iv n), .t (iv m)] H nx = some (.t (bv false), upd H 0 (pr t p), nx) :=
 A3g (ts := [sv s, iv n, iv m]) h0 hnx (by rw [B7j hL hlim hp, h]; rfl)
theorem C7i {s : ByteArray} {n m : Int} (h : isSy L p s.data.toList = false) : eP t (A4e l) [.ptr 0 0, .t (sv s), .t (iv n), .t (iv m)] H nx = none :=
 A3i (ts := [sv s, iv n, iv m]) (x := (bv false, p)) h0 (by rw [B7j hL hlim hp, h]; rfl)
include hnx in
theorem C1w {s : ByteArray} {n m : Int} (h : isSy L p s.data.toList = true) (hm : ¬ m <= n) : hP t (A4e l) [.ptr 0 0, .t (sv s), .t (iv n), .t (iv m)] H nx = some (.t (bv true), upd H 0 (pr t (p + 1)), nx) :=
 A3g (ts := [sv s, iv n, iv m]) h0 hnx (by rw [B7j hL hlim hp, h, B4d, if_pos rfl, if_neg hm])
theorem B7k {s : ByteArray} {n m : Int} (h : isSy L p s.data.toList = true) (hm : ¬ m <= n) : eP t (A4e l) [.ptr 0 0, .t (sv s), .t (iv n), .t (iv m)] H nx = none :=
 A3i (ts := [sv s, iv n, iv m]) (x := (bv true, p + 1)) h0 (by rw [B7j hL hlim hp, h, B4d, if_pos rfl, if_neg hm])
include hnx in
theorem C1x {s : ByteArray} {n m : Int} (h : isSy L p s.data.toList = true) (hm : m <= n) : eP t (A4e l) [.ptr 0 0, .t (sv s), .t (iv n), .t (iv m)] H nx = some (errC 7) :=
 A4b (ts := [sv s, iv n, iv m]) h0 hnx (by rw [B7j hL hlim hp, h, B4d, if_pos rfl, if_pos hm])
omit h0 in
theorem C7j (s : ByteArray) : B2w l p [sv s] = some (skR (A3v L p s.data.toList)) := by rw [hL]; exact if_pos (by omega)
include hnx in
theorem E0i {s : ByteArray} {p' : Nat} (h : A3v L p s.data.toList = .ok p') : hP t (B2w l) [.ptr 0 0, .t (sv s)] H nx = some (.t (.tu []), upd H 0 (pr t p'), nx) :=
 A3g (ts := [sv s]) h0 hnx (by rw [C7j hL hlim hp, h]; rfl)
theorem D5z {s : ByteArray} {p' : Nat} (h : A3v L p s.data.toList = .ok p') : eP t (B2w l) [.ptr 0 0, .t (sv s)] H nx = none :=
 A3i (ts := [sv s]) (x := (.tu [], p')) h0 (by rw [C7j hL hlim hp, h]; rfl)
include hnx in
theorem E0j {s : ByteArray} {e : Int} (h : A3v L p s.data.toList = .error e) : eP t (B2w l) [.ptr 0 0, .t (sv s)] H nx = some (errC e) :=
 A4b (ts := [sv s]) h0 hnx (by rw [C7j hL hlim hp, h]; rfl)
omit hlim h0 in
theorem D6a (n : Nat) : gDes l n p [iv (65 - (n : Int))] = some (resP dT (desS L n p)) := by rw [C1t hp, hL]
omit hlim in
include hnx in
theorem E3x {n : Nat} {d : Ds} {p' : Nat} (h : desS L n p = .ok (d, p')) : hP t (gDes l n) [.ptr 0 0, .t (iv (65 - (n : Int)))] H nx = some (.t (dT d), upd H 0 (pr t p'), nx) :=
 A3g (ts := [iv (65 - (n : Int))]) h0 hnx (by rw [D6a hL hp, h]; rfl)
omit hlim in
theorem E0k {n : Nat} {d : Ds} {p' : Nat} (h : desS L n p = .ok (d, p')) : eP t (gDes l n) [.ptr 0 0, .t (iv (65 - (n : Int)))] H nx = none :=
 A3i (ts := [iv (65 - (n : Int))]) (x := (dT d, p')) h0 (by rw [D6a hL hp, h]; rfl)
omit hlim in
include hnx in
theorem E3y {n : Nat} {e : Int} (h : desS L n p = .error e) : eP t (gDes l n) [.ptr 0 0, .t (iv (65 - (n : Int)))] H nx = some (errC e) :=
 A4b (ts := [iv (65 - (n : Int))]) h0 hnx (by rw [D6a hL hp, h]; rfl)
end
section
variable (a b c d : PV) (H : Heap)
theorem bsS (s : ByteArray) (k : Nat) : A6b 9 1 [.string ⟨#[]⟩] 1 [(0, .t (sv s))] k = some (.row k 0 1 1, .cells 9 [.t (sv s)]) := rfl
theorem bsA (k : Nat) : A6b 25 4 [.int .i64 0, .string ⟨#[]⟩, .slice none 0 0, .slice none 0 0] 1 [(0, .ag [a, b, c, d])] k = some (.row k 0 1 4, .cells 25 [a, b, c, d]) := rfl
theorem bdP {Φ : A0u} {nx k : Nat} {path : List ByteArray} (h : path ≠ []) : A0d Φ H nx (.build [(0, 1), (1, 1), (2, 1), (3, 1)] [.int .i64 0, .string ⟨#[]⟩, .slice none 0 0, .slice none 0 0] [0, 2, 3]) [.t (iv 5), rowP eStr 3 path, .row k 0 1 4] =
  some (.ag [.t (iv 5), .t (sv ⟨#[]⟩), rowP eStr 3 path, .row k 0 1 4], H, nx) := by
 cases path with
 | nil => exact absurd rfl h
 | cons x r => rfl
end
variable {q : Gl} {t : T} {l : List Tok} {i : Nat}
noncomputable def ctB (l : List Tok) (t : T) (n : Nat) : HTbl := [(82, hP t (B8o l)), (57, hP t (A4e l)), (115, hP t (B2w l)), (34, hP t (gDes l n))]
noncomputable def ceB (l : List Tok) (t : T) (n : Nat) : ETbl := [(82, eP t (B8o l)), (57, eP t (A4e l)), (115, eP t (B2w l)), (34, eP t (gDes l n))]
theorem ctxB (ht : IsS eTok t l) {n : Nat} (hD : A9f q t l n) : Ctx Tryz.prog (G q) (orh [] (ctB l t n)) :=
 A0z.nil.ctxH (.cons (A1y (B5n ht)).hok (.cons (A1y (A7o ht)).hok (.cons (A1y (B5o ht)).hok (.cons (A1y hD).hok .nil)))) mixed
theorem panB (ht : IsS eTok t l) {n : Nat} (hD : A9f q t l n) : POK Tryz.prog (G q) (orE (ceB l t n)) :=
 A5z.ok (.cons (A1y (B5n ht)).eok (.cons (A1y (A7o ht)).eok (.cons (A1y (B5o ht)).eok (.cons (A1y hD).eok .nil))))
def B5g (rec : Nat -> Res Ds) : Res (List ByteArray) -> Res Ds
 | .error e => .error e
 | .ok (path, p2) => match rec p2 with
  | .error e => .error e
  | .ok (d, p3) => .ok (.mk 5 ⟨#[]⟩ path [d], p3)
theorem D6b {L : List KT} {rec : Nat -> Res Ds} {p p1 : Nat} {s : ByteArray} (h : A2u L p 2 = .ok (s, p1)) : A7x L rec p = B5g rec (B1g L (L.length + 1) p1 [s]) := by
 unfold A7x
 rw [h]
 simp only
 cases B1g L (L.length + 1) p1 [s] <;> rfl
structure Br where
 f : Nat
 p : Nat
 parts : List Ds
def SBr (t : T) (v : Int) (a : Br) : A0b := ⟨[(2, .t (iv v)), (1, rowP eD 2 a.parts), (0, .ptr 0 0)], [(0, pr t a.p)] ++ rowH eD 25 2 a.parts, 3, 38⟩
structure OkBr (L : List KT) (n : Nat) (R : Res (List Ds)) (a : Br) : Prop where
 le : a.p <= L.length
 fu : L.length - a.p < a.f
 pl : a.parts.length <= 255
 eq : brS L (desS L n) a.f a.p a.parts = R
structure Pa where
 f : Nat
 p : Nat
 path : List ByteArray
def SPa (t : T) (v : Int) (parts : List Ds) (a : Pa) : A0b :=
 ⟨[(7, rowP eStr 3 a.path), (2, .t (iv v)), (1, rowP eD 2 parts), (0, .ptr 0 0)], [(0, pr t a.p)] ++ (rowH eD 25 2 parts ++ rowH eStr 9 3 a.path), 4, 38⟩
structure OkPa (L : List KT) (R : Res (List ByteArray)) (a : Pa) : Prop where
 le : a.p <= L.length
 fu : L.length - a.p < a.f
 pl : a.path.length <= 64
 ne : a.path ≠ []
 eq : B1g L a.f a.p a.path = R
theorem br_ok (ht : IsS eTok t l) (hlim : l.length <= 1000000) {n : Nat} (hD : A9f q t l n) (hF : Fwd (l.map kt) (desS (l.map kt) n)) (hn : n <= 64) (hi : i <= l.length) {parts : List Ds} (hpl : parts.length <= 255) :
  KM q t 83 i parts (64 - (n : Int)) (brS (l.map kt) (desS (l.map kt) n) ((l.map kt).length + 1) i parts) := by
 have C := ctxB ht hD
 have E := panB ht hD
 obtain ⟨L, hL⟩ : ∃ L, L = l.map kt := ⟨_, rfl⟩
 have hLl : L.length = l.length := by rw [hL, List.length_map]
 rw [<- hL] at hF ⊢
 obtain ⟨R, hR⟩ : ∃ R, R = brS L (desS L n) (L.length + 1) i parts := ⟨_, rfl⟩
 rw [<- hR]
 have ev : IntKind.i64.wrap (64 - (n : Int) + 1) = 65 - (n : Int) := by
  rw [A4h (by omega) (by omega)]; omega
 refine A9r.callO rfl ?_
 unfold A5v
 refine A0k C E rfl ?_
 simp -implicitDefEqProofs
 refine A0w ?_
 refine A1l (SBr t (64 - (n : Int))) (fun a => a.f) (OkBr L n R) ⟨L.length + 1, i, parts⟩ (fun _ => rfl) ⟨by show i <= _; omega, by show L.length - i < L.length + 1; omega, hpl, hR.symm⟩ ?_ rfl ?_
 ·exact A2k (k := 1) ((A0n.head' eD 25 1 parts).cons (by omega)) (by omega) (by omega) (by simp -implicitDefEqProofs [A0v, renL, ren, A0m, A0x, under]) (by simp -implicitDefEqProofs [A1c, A0o, ren, under])
 rintro ⟨f, p, parts⟩ ⟨hp, hfu, hpl, heq⟩
 simp only at hp hfu hpl heq
 rw [hLl] at hp hfu
 obtain ⟨f', rfl⟩ : ∃ f', f = f' + 1 := ⟨f - 1, by omega⟩
 rw [brS] at heq
 refine A0w ?_
 cases htk : A2u L p 2 with
 | error e =>
  have e1 : A7x L (desS L n) p = .error e := by unfold A7x; rw [htk]
  rw [e1] at heq
  simp only at heq
  have m1 := B5r (t := t) (nx := 3) (H := (0, pr t p) :: rowH eD 25 2 parts) hL hlim rfl (by omega) hp htk
  refine A0k C E rfl ?_
  rw [<- heq]
  simp -implicitDefEqProofs [SBr, ctB, ceB, m1, outK]
 | ok x =>
  obtain ⟨s, p1⟩ := x
  have hf1 := A7p htk
  rw [hLl] at hf1
  obtain ⟨Rp, hRp⟩ : ∃ Rp, Rp = B1g L (L.length + 1) p1 [s] := ⟨_, rfl⟩
  have e1 : A7x L (desS L n) p = B5g (desS L n) Rp := by rw [D6b htk, hRp]
  have hRe : ∀ e, Rp = .error e -> R = .error e := fun e h => by rw [e1, h] at heq; exact heq.symm
  have m1 := B5q (t := t) (nx := 3) (H := (0, pr t p) :: rowH eD 25 2 parts) hL hlim rfl (by omega) hp htk
  have m2 := B2z (t := t) (nx := 3) (H := (0, pr t p) :: rowH eD 25 2 parts) hL hlim rfl hp htk
  refine A0k C E rfl ?_
  simp -implicitDefEqProofs [SBr, ctB, ceB, m1, m2, bsS]
  refine A2g (α := Pa) (SPa t (64 - (n : Int)) parts) (fun a => Rp = .ok (a.path, a.p) /\ a.path ≠ [] /\ a.p <= l.length) (fun _ => rfl) ?_ ?_
  ·refine A0w ?_
   refine A1l (SPa t (64 - (n : Int)) parts) (fun a => a.f) (OkPa L Rp) ⟨L.length + 1, p1, [s]⟩ (fun _ => rfl) ⟨by show p1 <= _; omega, by show L.length - p1 < L.length + 1; omega, by simp, by simp, hRp.symm⟩ ?_ rfl ?_
   ·exact C4x (k := 3) (c := 2) (.inr rfl) (((A0n.head' eD 25 2 parts).cons (by omega)).cons (by omega)) (by omega) (by omega) (by omega) (by omega) (by omega) (by simp -implicitDefEqProofs [A0v, renL, ren, A0m, A0x, under]) (by simp -implicitDefEqProofs [A1c, A0o, ren, under, show rowP eStr 3 [s] = .row 3 0 1 1 from rfl])
   ·rintro ⟨f2, p2, path⟩ ⟨hp2, hfu2, hpl2, hne2, heq2⟩
    simp only at hp2 hfu2 hpl2 hne2 heq2
    rw [hLl] at hp2 hfu2
    obtain ⟨f3, rfl⟩ : ∃ f3, f2 = f3 + 1 := ⟨f2 - 1, by omega⟩
    rw [B1g] at heq2
    have hlen : A2f (rowP eStr 3 path) = some (.t (iv (path.length : Int))) := A7k eStr 3 path
    cases hs : isSy L p2 [46] with
    | false =>
     rw [hs] at heq2
     simp only [Bool.false_eq_true, if_false] at heq2
     have m3 := C7h (t := t) (nx := 4) (H := (0, pr t p2) :: (rowH eD 25 2 parts ++ rowH eStr 9 3 path)) (s := ⟨#[46]⟩) (n := (path.length : Int)) (m := 64) hL hlim rfl (by omega) hp2 hs
     have m4 := C7i (t := t) (nx := 4) (H := (0, pr t p2) :: (rowH eD 25 2 parts ++ rowH eStr 9 3 path)) (s := ⟨#[46]⟩) (n := (path.length : Int)) (m := 64) hL hlim rfl hp2 hs
     refine A0l C E rfl ?_
     simp -implicitDefEqProofs [SPa, ctB, ceB, hlen, m3, m4]
     refine Abs.Next.mk ⟨f3, p2, path⟩ ⟨heq2.symm, hne2, hp2⟩ ?_
     exact A1i (by simp -implicitDefEqProofs)
    | true =>
     rw [hs] at heq2
     simp only [if_true] at heq2
     have hpl3 : p2 < l.length := by have := A1q hs; omega
     by_cases hbig : 64 <= path.length
     ·rw [if_pos hbig] at heq2
      rw [hRe _ heq2.symm]
      have m3 := C1x (t := t) (nx := 4) (H := (0, pr t p2) :: (rowH eD 25 2 parts ++ rowH eStr 9 3 path)) (s := ⟨#[46]⟩) (n := (path.length : Int)) (m := 64) hL hlim rfl (by omega) hp2 hs (by omega)
      refine A0l C E rfl ?_
      simp -implicitDefEqProofs [SPa, ctB, ceB, hlen, m3, outK]
     ·rw [if_neg hbig] at heq2
      have m3 := C1w (t := t) (nx := 4) (H := (0, pr t p2) :: (rowH eD 25 2 parts ++ rowH eStr 9 3 path)) (s := ⟨#[46]⟩) (n := (path.length : Int)) (m := 64) hL hlim rfl (by omega) hp2 hs (by omega)
      have m4 := B7k (t := t) (nx := 4) (H := (0, pr t p2) :: (rowH eD 25 2 parts ++ rowH eStr 9 3 path)) (s := ⟨#[46]⟩) (n := (path.length : Int)) (m := 64) hL hlim rfl hp2 hs (by omega)
      cases htk2 : A2u L (p2 + 1) 2 with
      | error e =>
       rw [htk2] at heq2
       simp only at heq2
       rw [hRe _ heq2.symm]
       have m5 := B5r (t := t) (nx := 4) (H := (0, pr t (p2 + 1)) :: (rowH eD 25 2 parts ++ rowH eStr 9 3 path)) hL hlim rfl (by omega) (by omega) htk2
       refine A0l C E rfl ?_
       simp -implicitDefEqProofs [SPa, ctB, ceB, hlen, m3, m4, m5, outK]
      | ok x =>
       obtain ⟨s2, p3⟩ := x
       rw [htk2] at heq2
       simp only at heq2
       have hf2 := A7p htk2
       rw [hLl] at hf2
       have m5 := B5q (t := t) (nx := 4) (H := (0, pr t (p2 + 1)) :: (rowH eD 25 2 parts ++ rowH eStr 9 3 path)) hL hlim rfl (by omega) (by omega) htk2
       have m6 := B2z (t := t) (nx := 4) (H := (0, pr t (p2 + 1)) :: (rowH eD 25 2 parts ++ rowH eStr 9 3 path)) hL hlim rfl (by omega) htk2
       have r0 : A0n eStr 9 ((4, .cells 9 [.t (sv s2)]) :: (0, pr t p3) :: (rowH eD 25 2 parts ++ rowH eStr 9 3 path)) 3 path :=
        ((A0n.right (A0n.head' eStr 9 3 path) (D5y (by omega))).cons (k := 0) (by omega)).cons (k := 4) (by omega)
       have r1 : A0n eD 25 ((4, .cells 9 [.t (sv s2)]) :: (0, pr t p3) :: (rowH eD 25 2 parts ++ rowH eStr 9 3 path)) 2 parts :=
        ((A0n.head eD 25 _ 2 parts).cons (k := 0) (by omega)).cons (k := 4) (by omega)
       obtain ⟨b2, H2, n2, ap2, r2, ne2, hle2, hold, hb2⟩ := A4j (e := eStr) (ty := 9) (by' := 16) (nx := 5) (m := [s2]) r0 (A7w (e := eStr) (b := 4) (ty := 9) s2 rfl) (by simp; omega) (by simp; omega)
       have ap2' : appM 9 1 16 ((4, .cells 9 [.t (sv s2)]) :: (0, pr t p3) :: (rowH eD 25 2 parts ++ rowH eStr 9 3 path)) 5 (rowP eStr 3 path) (.row 4 0 1 1) = some (rowP eStr b2 (path ++ [s2]), H2, n2) := ap2
       have hl2 : Abs.look H2 0 = some (pr t p3) := (hold 0 (by omega) (by omega)).trans rfl
       have r1' : A0n eD 25 H2 2 parts := r1.imp id fun h => by rw [hold 2 (by omega) (by omega)]; exact h
       refine A0l C E rfl ?_
       simp -implicitDefEqProofs [SPa, ctB, ceB, hlen, m3, m4, m5, m6, bsS, ap2']
       refine Abs.Next.mk ⟨f3, p3, path ++ [s2]⟩ ⟨⟨by show p3 <= _; omega, by show L.length - p3 < f3; omega, by simp; omega, by simp, heq2⟩, by show f3 < f3 + 1; omega⟩ ?_
       exact C4x (k := b2) (c := 2) r2 r1' (by omega) (by omega) (by omega) (by omega) (by omega) (by simp -implicitDefEqProofs [A0v, renL, ren, A0m, A0x, under, hl2]; omega) (by simp -implicitDefEqProofs [A1c, A0o, ren, under])
  ·rintro ⟨f2, p2, path⟩ ⟨hRp2, hne2, hp2⟩
   simp only at hRp2 hne2 hp2
   rw [e1, hRp2] at heq
   have hpf := C1r _ _ _ _ _ (hRp.symm.trans hRp2) (by simp)
   cases hd : desS L n p2 with
   | error e =>
    have e2 : B5g (desS L n) (.ok (path, p2)) = .error e := by simp only [B5g, hd]
    rw [e2] at heq
    simp only at heq
    rw [<- heq]
    have m3 := E3y (t := t) (nx := 4) (H := (0, pr t p2) :: (rowH eD 25 2 parts ++ rowH eStr 9 3 path)) hL rfl (by omega) hp2 hd
    refine A0k C E rfl ?_
    simp -implicitDefEqProofs [SPa, ctB, ceB, ev, m3, outK]
   | ok y =>
    obtain ⟨d, p3⟩ := y
    have e2 : B5g (desS L n) (.ok (path, p2)) = .ok (.mk 5 ⟨#[]⟩ path [d], p3) := by simp only [B5g, hd]
    rw [e2] at heq
    simp only at heq
    have hf2 := hF _ _ _ hd
    rw [hLl] at hf2
    have m3 := E3x (t := t) (nx := 4) (H := (0, pr t p2) :: (rowH eD 25 2 parts ++ rowH eStr 9 3 path)) hL rfl (by omega) hp2 hd
    have m4 := E0k (t := t) (nx := 4) (H := (0, pr t p2) :: (rowH eD 25 2 parts ++ rowH eStr 9 3 path)) hL rfl hp2 hd
    obtain ⟨H5, hH5⟩ : ∃ H5 : Heap, H5 = (5, .cells 25 [.t (iv 5), .t (sv ⟨#[]⟩), rowP eStr 3 path, .row 4 0 1 4]) :: (4, .cells 25 ((encD d).map .t)) :: (0, pr t p3) :: (rowH eD 25 2 parts ++ rowH eStr 9 3 path) := ⟨_, rfl⟩
    have r1 : A0n eD 25 H5 2 parts := by
     rw [hH5]
     exact (((A0n.head eD 25 _ 2 parts).cons (k := 0) (by omega)).cons (k := 4) (by omega)).cons (k := 5) (by omega)
    have r3 : A0n eStr 9 H5 3 path := by
     rw [hH5]
     exact (((A0n.right (A0n.head' eStr 9 3 path) (D5y (by omega))).cons (k := 0) (by omega)).cons (k := 4) (by omega)).cons (k := 5) (by omega)
    obtain ⟨H6, ap, hn6, hold⟩ := D5v (e := eD) (ty := 25) (by' := 72) (nx := 6) (k := 5) r1 (by rw [hH5]; rfl) rfl (by omega) (by omega)
    have ap' : appM 25 4 72 H5 6 (rowP eD 2 parts) (.row 5 0 1 4) = some (.row 6 0 (parts.length + 1) 4, H6, 7) := ap
    rw [hH5] at ap'
    refine A0k C E rfl ?_
    simp -implicitDefEqProofs [SPa, ctB, ceB, ev, m3, m4, bsD, -evalK_build, bdP _ hne2, bsA, ap']
    have w3 : A0n eStr 9 H6 3 path := r3.imp id fun h => by rw [hold 3 (by omega) (by omega)]; exact h
    have w4 : Abs.look H6 4 = some (A3h eD 25 [d]) := by rw [hold 4 (by omega) (by omega), hH5]; simp [Abs.look, A3h, eD]
    have w0 : Abs.look H6 0 = some (pr t p3) := by rw [hold 0 (by omega) (by omega), hH5]; rfl
    obtain ⟨parts2, hp2e⟩ : ∃ parts2, parts2 = parts ++ [.mk 5 ⟨#[]⟩ path [d]] := ⟨_, rfl⟩
    have hlen2 : parts2.length = parts.length + 1 := by rw [hp2e]; simp
    refine MC.sub (E0h (v := 64 - (n : Int)) (kn := 6) (kd := 4) (by omega) hn6 w3 w4 w0 (by omega) (by omega) (by omega) rfl rfl rfl) rfl ?_
    rw [<- hp2e] at heq ⊢
    have hlen : A2f (rowP eD 2 parts2) = some (.t (iv (parts2.length : Int))) := A7k eD 2 parts2
    cases hs : isSy L p3 [44] with
    | false =>
     rw [hs] at heq
     simp only [Bool.false_eq_true, if_false] at heq
     have m5 := C7h (t := t) (nx := 3) (H := (0, pr t p3) :: rowH eD 25 2 parts2) (s := ⟨#[44]⟩) (n := (parts2.length : Int)) (m := 256) hL hlim rfl (by omega) hf2.2 hs
     have m6 := C7i (t := t) (nx := 3) (H := (0, pr t p3) :: rowH eD 25 2 parts2) (s := ⟨#[44]⟩) (n := (parts2.length : Int)) (m := 256) hL hlim rfl hf2.2 hs
     cases hsk : A3v L p3 [93] with
     | error e =>
      rw [hsk] at heq
      simp only at heq
      rw [<- heq]
      have m7 := E0j (t := t) (nx := 3) (H := (0, pr t p3) :: rowH eD 25 2 parts2) (s := ⟨#[93]⟩) hL hlim rfl (by omega) hf2.2 hsk
      refine A0l C E rfl ?_
      simp -implicitDefEqProofs [ctB, ceB, hlen, m5, m6, m7, outK]
     | ok p4 =>
      rw [hsk] at heq
      simp only at heq
      rw [<- heq]
      have m7 := E0i (t := t) (nx := 3) (H := (0, pr t p3) :: rowH eD 25 2 parts2) (s := ⟨#[93]⟩) hL hlim rfl (by omega) hf2.2 hsk
      have m8 := D5z (t := t) (nx := 3) (H := (0, pr t p3) :: rowH eD 25 2 parts2) (s := ⟨#[93]⟩) hL hlim rfl hf2.2 hsk
      refine A0l C E rfl ?_
      simp -implicitDefEqProofs [ctB, ceB, hlen, m5, m6, m7, m8, outK]
      exact C4q ⟨.inr rfl, _, _, Sub.refl _, rfl, rfl, rfl, rfl⟩
    | true =>
     rw [hs] at heq
     simp only [if_true] at heq
     have hpl3 : p3 < l.length := by have := A1q hs; omega
     by_cases hbig : 256 <= parts.length + 1
     ·rw [if_pos hbig] at heq
      rw [<- heq]
      have m5 := C1x (t := t) (nx := 3) (H := (0, pr t p3) :: rowH eD 25 2 parts2) (s := ⟨#[44]⟩) (n := (parts2.length : Int)) (m := 256) hL hlim rfl (by omega) hf2.2 hs (by omega)
      refine A0l C E rfl ?_
      simp -implicitDefEqProofs [ctB, ceB, hlen, m5, outK]
     ·rw [if_neg hbig] at heq
      have m5 := C1w (t := t) (nx := 3) (H := (0, pr t p3) :: rowH eD 25 2 parts2) (s := ⟨#[44]⟩) (n := (parts2.length : Int)) (m := 256) hL hlim rfl (by omega) hf2.2 hs (by omega)
      have m6 := B7k (t := t) (nx := 3) (H := (0, pr t p3) :: rowH eD 25 2 parts2) (s := ⟨#[44]⟩) (n := (parts2.length : Int)) (m := 256) hL hlim rfl hf2.2 hs (by omega)
      refine A0l C E rfl ?_
      simp -implicitDefEqProofs [ctB, ceB, hlen, m5, m6]
      refine Abs.Next.mk ⟨f', p3 + 1, parts2⟩ ⟨⟨by show p3 + 1 <= _; omega, by show L.length - (p3 + 1) < f'; omega, by show parts2.length <= 255; omega, heq⟩, by show f' < f' + 1; omega⟩ ?_
      exact A1i (by simp -implicitDefEqProofs)
end Go.Proofs.YtjkkgbdoeaihmaaGreatDoor
