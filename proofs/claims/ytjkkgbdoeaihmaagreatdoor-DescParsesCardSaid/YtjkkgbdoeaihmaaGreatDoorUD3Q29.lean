/-
 Auxiliary facts. No statement of the program stands here.
-/
import Derived.Test.YtjkkgbdoeaihmaaGreatDoorUD3Q28
import Derived.Test.YtjkkgbdoeaihmaaGreatDoorUD3Q22
namespace Go.Proofs.YtjkkgbdoeaihmaaGreatDoor
set_option linter.unusedSimpArgs false
set_option linter.unusedVariables false
open Go Go.Abs
variable {q : Gl} {t : T} {l : List Tok} {i : Nat}
theorem endA {R : T -> Prop} {env : List (Nat × PV)} {H : Heap} {nx n a b c ty k : Nat} {parts : List Ds} {p e : Int} (h2 : 2 <= parts.length) (hr : A0n eD 25 H k parts) (h6 : Abs.look env a = some (.ptr 0 0)) (hl : Abs.look H 0 = some (.cells ty [.t (iv 4), .t (sv ⟨#[]⟩), .t nilS, rowP eD k parts])) (h7 : Abs.look env b = some (.t (iv p))) (h8 : Abs.look env c = some (.t (iv e)))
  (hR : R (.tu [dT (.mk 4 ⟨#[]⟩ [] parts), iv p, iv e])) : B2a [RV.cell a true 4, RV.tmp b, RV.tmp c] R .ret ⟨env, H, nx, n⟩ := by
 have hd : A0s true 4 H (.ptr 0 0) = some (.ag [.t (iv 4), .t (sv ⟨#[]⟩), .t nilS, rowP eD k parts]) := by
  cases parts with
  | nil => simp at h2
  | cons x r => simp only [A0s, hl]; rfl
 have ht := hr.toT
 refine C1b (ps := [.ag [.t (iv 4), .t (sv ⟨#[]⟩), .t nilS, rowP eD k parts], .t (iv p), .t (iv e)]) (r := .tu [dT (.mk 4 ⟨#[]⟩ [] parts), iv p, iv e]) (F := B8l k parts) ?_ ?_ hR
 ·simp only [resM, h6, h7, h8, hd]
  try rfl
 ·rw [dT, A4p]
  have : oneOf [.ag [.t (iv 4), .t (sv ⟨#[]⟩), .t nilS, rowP eD k parts], .t (iv p), .t (iv e)] = .tu [.ag [.t (iv 4), .t (sv ⟨#[]⟩), .t nilS, rowP eD k parts], .t (iv p), .t (iv e)] := rfl
  rw [this]
  simp [toT, ht, A2h]
theorem C0e (d : Ds) (R : Heap) : A1b 4 ((0, zD) :: R) (.ptr 0 0) (.t (dT d)) = some ((0, .cells 25 ((encD d).map .t)) :: R) := by
 cases d; rw [dT, encD]; rfl
noncomputable def tbW (l : List Tok) (t : T) : Tbl := [(59, gRis l t), (60, gRfu)]
theorem bdK1 {Φ : A0u} {H : Heap} {nx : Nat} {k : Int} {parts : List Ds} (h : 2 <= parts.length) : A0d Φ H nx (.build [(0, 1), (1, 1), (2, 1), (3, 1)] [.int .i64 0, .string ⟨#[]⟩, .slice none 0 0, .slice none 0 0] [0, 3]) [.t (iv k), rowP eD 1 parts] =
  some (.ag [.t (iv k), .t (sv ⟨#[]⟩), .t nilS, rowP eD 1 parts], H, nx) := by
 cases parts with
 | nil => simp at h
 | cons x r => rfl
def midW : A0p := match A2w with
 | .seq _ (.seq _ r) => r
 | _ => .skip
def D2m : A0p := match A2w with
 | .seq _ (.seq _ (.seq _ r)) => r
 | _ => .skip
structure Rw where
 f : Nat
 p : Nat
 parts : List Ds
 e : Int
def SWh (t : T) (v : Int) (a : Rw) : A0b := ⟨[(9, rowP eD 1 a.parts), (1, .t (iv (a.p : Int))), (10, .t (iv a.e)), (2, .t (iv v)), (0, .t t), (6, .ptr 0 0)], [(0, zD)] ++ rowH eD 25 1 a.parts, 2, 63⟩
def D2n : A0p := match D2m with
 | .seq _ r => r
 | _ => .skip
theorem C9y {Φ : A0u} (C : Ctx Tryz.prog (G q) Φ) {v : Int} {a : Rw} {R : Res Ds} (h : (a.e ≠ 0 /\ R = .error a.e) \/ (a.e = 0 /\ a.parts ≠ [] /\ R = .ok (oneS a.parts, a.p))) :
  MC Tryz.prog (G q) 0 63 D2n (B2a [RV.cell 6 true 4, RV.tmp 7, RV.tmp 8] (· = A3m R)) (SWh t v a) := by
 obtain ⟨f, p, parts, e⟩ := a
 simp only at h
 obtain ⟨H0, hH0⟩ : ∃ H0 : Heap, H0 = (0, zD) :: rowH eD 25 1 parts := ⟨_, rfl⟩
 have l00 : Abs.look H0 0 = some zD := by rw [hH0]; rfl
 have r01 : A0n eD 25 H0 1 parts := by rw [hH0]; exact (A0n.head' eD 25 1 parts).cons (by omega)
 have l0u : ∀ (X : Row), Abs.look (upd H0 0 X) 0 = some X := fun X => by rw [A0g, if_pos rfl, l00]; rfl
 show MC Tryz.prog (G q) 0 63 _ _ ⟨[(9, rowP eD 1 parts), (1, .t (iv (p : Int))), (10, .t (iv e)), (2, .t (iv v)), (0, .t t), (6, .ptr 0 0)], (0, zD) :: rowH eD 25 1 parts, 2, 63⟩
 rw [<- hH0]
 rcases h with ⟨he, hR⟩ | ⟨rfl, hne, hR⟩
 ·have hb : (e != 0) = true := by simpa using he
  have st : A1b 4 H0 (.ptr 0 0) (.t (dT zDs)) = some _ := st_d l00
  rw [hR]
  refine A0c C ?_
  simp -implicitDefEqProofs [D2n, D2m, A2w, hb, -evalK_build, bdZ, st, -endsM_ret]
  exact endT (d := zDs) (ty := 25) rfl (l0u _) rfl rfl rfl
 ·rw [hR]
  have hlen : A2f (rowP eD 1 parts) = some (.t (iv (parts.length : Int))) := A7k eD 1 parts
  rcases parts with _ | ⟨d, _ | ⟨d2, r⟩⟩
  ·exact absurd rfl hne
  ·have ia : A4v 4 (rowP eD 1 [d]) (.t (.v (.int .i64 0))) = some (.ptr 1 0) := rfl
   have ld : A0s true 4 H0 (.ptr 1 0) = some (.t (dT d)) := ld_d (ty := 25) (by rw [hH0]; simp [rowH, Abs.look, eD])
   have st : A1b 4 H0 (.ptr 0 0) (.t (dT d)) = some _ := st_d l00
   refine A0c C ?_
   simp -implicitDefEqProofs [D2n, D2m, A2w, hlen, ia, ld, st, -endsM_ret]
   exact endT (d := d) (ty := 25) rfl (l0u _) rfl rfl rfl
  ·obtain ⟨ps, hps⟩ : ∃ ps, ps = d :: d2 :: r := ⟨_, rfl⟩
   have hpl : 2 <= ps.length := by rw [hps]; simp
   have h1 : oneS ps = .mk 4 ⟨#[]⟩ [] ps := by rw [hps]; rfl
   rw [<- hps] at hlen r01 ⊢
   rw [h1]
   have hne1 : ¬ ps.length = 1 := by omega
   have hne2 : ((ps.length : Int) == 1) = false := by simpa using (by omega : ¬ (ps.length : Int) = 1)
   have st : A1b 4 H0 (.ptr 0 0) (.ag [.t (iv 4), .t (sv ⟨#[]⟩), .t nilS, rowP eD 1 ps]) = some (upd H0 0 (.cells 25 [.t (iv 4), .t (sv ⟨#[]⟩), .t nilS, rowP eD 1 ps])) := by
    simp only [A1b, A2r, l00]; rfl
   refine A0c C ?_
   simp -implicitDefEqProofs [D2n, D2m, A2w, hlen, hne1, hne2, -evalK_build, bdK1 hpl, st, -endsM_ret]
   exact endA (k := 1) (ty := 25) hpl (r01.imp id fun h => by rw [A0g, if_neg (by omega)]; exact h) rfl (l0u _) rfl rfl rfl
theorem C5b {Φ : A0u} (C : Ctx Tryz.prog (G q) Φ) {v e : Int} (he : e ≠ 0) : MC Tryz.prog (G q) 0 63 D2m (B2a [RV.cell 6 true 4, RV.tmp 7, RV.tmp 8] (· = A3m (.error e))) (SWh t v ⟨0, 0, [], e⟩) := by
 have hb : (e == 0) = false := by simpa using he
 show MC Tryz.prog (G q) 0 63 (.seq _ D2n) _ _
 refine A2g (α := Unit) (fun _ => SWh t v ⟨0, 0, [], e⟩) (fun _ => True) (fun _ => rfl) ?_ (fun _ _ => C9y C (.inl ⟨he, rfl⟩))
 refine A0w ?_
 refine A1l (α := Unit) (fun _ => SWh t v ⟨0, 0, [], e⟩) (fun _ => 0) (fun _ => True) () (fun _ => rfl) trivial (Sub.refl _) rfl ?_
 rintro ⟨⟩ -
 refine A0c C ?_
 simp -implicitDefEqProofs [SWh, hb]
 exact Abs.Next.mk () trivial (A1i (by simp -implicitDefEqProofs))
theorem D2o (ht : IsS eTok t l) (hi : i <= l.length) : A1k Tryz.prog (G q) 35 [t, iv (i : Int), iv 65] (· = A3m (desS (l.map kt) 0 i)) := by
 have HT : A0z Tryz.prog (G q) (tbW l t) := .cons (B1i ht) (.cons B7l .nil)
 have hlen : A2f (.t t) = some (.t (iv (l.length : Int))) := ht.len
 unfold desS
 rw [List.length_map]
 refine B6o.call rfl ?_
 by_cases hlt : i < l.length
 ·have C := HT.ctx mixed
  rw [if_neg (by omega)]
  have h1 : (i : Int) < (l.length : Int) := by omega
  refine A0c C ?_
  simp -implicitDefEqProofs [A2w, hlen, h1, hlt, -evalK_build, bdZ, -endsM_ret]
  rw [C0e, ifSome_some]
  exact endT (d := zDs) (ty := 25) rfl rfl rfl rfl rfl
 ·rw [if_pos (by omega)]
  have h1 : ¬ (i : Int) < (l.length : Int) := by omega
  have hK := KT2.lift (D6u (q := q) ht (i := i) (by omega) 65) (H := [(0, zD)]) (b := 0) (NX := 1) (.inl rfl) (by omega) (fun _ _ h => by cases h)
  have hb : A1d Tryz.prog (G q) 58 [.t t, .t (iv (i : Int)), .t (iv 65), .t (.v (.slice none 0 0))] [(0, zD)] 1 (.t (.tu [nilS, iv 0, iv 9])) [(0, zD)] 2 := hK
  have C' := HT.ctxH (.cons (A2q hb (fun hf k x hk => by have := hf k x hk; omega)) .nil) mixed
  have ho := A2d [.t t, .t (iv (i : Int)), .t (iv 65), .t (.v (.slice none 0 0))] [(0, zD)] 1 (.t (.tu [nilS, iv 0, iv 9]), [(0, zD)], 2)
  unfold A2w
  refine A0a C' ?_
  simp -implicitDefEqProofs
  refine A0a C' ?_
  simp -implicitDefEqProofs [hlen, h1]
  refine A0a C' ?_
  simp -implicitDefEqProofs [ho]
  exact MC.sub (s' := SWh t 65 ⟨0, 0, [], 9⟩) (A1i (H := [(0, zD)]) (nx := 2) (env' := [(9, .t nilS), (1, .t (iv 0)), (10, .t (iv 9)), (2, .t (iv 65)), (0, .t t), (6, .ptr 0 0)]) (by simp -implicitDefEqProofs)) rfl (C5b C' (by omega))
def oneR : Res (List Ds) -> Res Ds
 | .error e => .error e
 | .ok (parts, p) => .ok (oneS parts, p)
def OkW (L : List KT) (n : Nat) (R2 : Res (List Ds)) (a : Rw) : Prop :=
 (a.e ≠ 0 /\ R2 = .error a.e) \/ (a.e = 0 /\ a.p <= L.length /\ L.length - a.p < a.f /\ a.parts.length <= 256 /\ a.parts ≠ [] /\ andS L (desS L n) a.f a.p a.parts = R2)
theorem E0w (ht : IsS eTok t l) (hlim : l.length <= 1000000) {n : Nat} (hW : WhOK q t l n) (hn : n <= 64) {Φ : A0u} (C0 : Ctx Tryz.prog (G q) Φ) {R2 : Res (List Ds)} {a0 : Rw} (h0 : OkW (l.map kt) n R2 a0) :
  MC Tryz.prog (G q) 0 63 D2m (B2a [RV.cell 6 true 4, RV.tmp 7, RV.tmp 8] (· = A3m (oneR R2))) (SWh t (64 - (n : Int)) a0) := by
 have HT : A0z Tryz.prog (G q) (tbW l t) := .cons (B1i ht) (.cons B7l .nil)
 have C := HT.ctx mixed
 have htm := fun {i : Nat} (hi : i <= l.length) {parts : List Ds} (hpl : parts.length <= 255) => C9x (q := q) ht hlim hW hn hi hpl
 obtain ⟨L, hL⟩ : ∃ L, L = l.map kt := ⟨_, rfl⟩
 have hLl : L.length = l.length := by rw [hL, List.length_map]
 have his : ∀ (i : Nat) (s : ByteArray) (b : Bool), isSy L i s.data.toList = b -> gRis l t [t, iv (i : Int), sv s] = some (bv b) := fun i s b h => by rw [B4f, <- hL, h]
 have hF := A5g (l := L) n
 rw [<- hL] at htm h0
 have ew : ∀ p : Nat, p < l.length -> IntKind.i64.wrap ((p : Int) + 1) = ((p + 1 : Nat) : Int) := fun p hp => A1a (by omega) (by omega)
 obtain ⟨Rf, hRf⟩ : ∃ Rf : Res Ds, Rf = oneR R2 := ⟨_, rfl⟩
 rw [<- hRf]
 show MC Tryz.prog (G q) 0 63 (.seq _ D2n) _ _
 refine A2g (α := Rw) (SWh t (64 - (n : Int))) (fun a => (a.e ≠ 0 /\ R2 = .error a.e) \/ (a.e = 0 /\ a.parts ≠ [] /\ R2 = .ok (a.parts, a.p))) (fun _ => rfl) ?_ ?_
 ·refine A0w ?_
  refine A1l (SWh t (64 - (n : Int))) (fun a => a.f) (OkW L n R2) a0 (fun _ => rfl) h0 (Sub.refl _) rfl ?_
  rintro ⟨f, p, parts, e⟩ h
  rcases h with ⟨he, hR⟩ | ⟨he, hp, hfu, hpl, hne, heq⟩
  ·simp only at he hR
   have hb : (e == 0) = false := by simpa using he
   refine A0c C ?_
   simp -implicitDefEqProofs [SWh, hb]
   exact Abs.Next.mk ⟨f, p, parts, e⟩ (.inl ⟨he, hR⟩) (A1i (by simp -implicitDefEqProofs))
  ·simp only at he hp hfu hpl hne heq
   subst he
   rw [hLl] at hp hfu
   obtain ⟨f', rfl⟩ : ∃ f', f = f' + 1 := ⟨f - 1, by omega⟩
   rw [andS] at heq
   cases hs : isSy L p [38] with
   | false =>
    rw [hs] at heq
    simp only [Bool.false_eq_true, if_false] at heq
    have h1 := his p ⟨#[38]⟩ false hs
    refine A0c C ?_
    simp -implicitDefEqProofs [SWh, tbW, h1]
    exact Abs.Next.mk ⟨f', p, parts, 0⟩ (.inr ⟨rfl, hne, heq.symm⟩) (A1i (by simp -implicitDefEqProofs))
   | true =>
    rw [hs] at heq
    simp only [if_true] at heq
    have hl1 := A1q hs
    rw [hLl] at hl1
    have h1 := his p ⟨#[38]⟩ true hs
    obtain ⟨p1, hp1⟩ : ∃ p1, p1 = p + 1 := ⟨_, rfl⟩
    have e1 : IntKind.i64.wrap ((p : Int) + 1) = (p1 : Int) := by rw [hp1]; exact ew p hl1
    obtain ⟨H0, hH0⟩ : ∃ H0 : Heap, H0 = (0, zD) :: rowH eD 25 1 parts := ⟨_, rfl⟩
    have l00 : Abs.look H0 0 = some zD := by rw [hH0]; rfl
    have r01 : A0n eD 25 H0 1 parts := by rw [hH0]; exact (A0n.head' eD 25 1 parts).cons (by omega)
    have hfu2 := C7n parts
    have htr := r01.toT
    unfold C7k at hfu2
    by_cases hbig : 256 <= parts.length
    ·rw [if_pos hbig] at heq hfu2
     rw [hH0] at htr
     refine A0c C ?_
     simp -implicitDefEqProofs [SWh, tbW, h1, htr, hfu2, A3a]
     exact Abs.Next.mk ⟨f', p, parts, 7⟩ ⟨.inl ⟨by show (7 : Int) ≠ 0; omega, heq.symm⟩, by show f' < f' + 1; omega⟩ (A1i (by simp -implicitDefEqProofs))
    ·rw [if_neg hbig] at heq hfu2
     rw [<- hp1] at heq
     obtain ⟨Rn, hRn⟩ : ∃ Rn, Rn = A6d L (desS L n) p1 parts := ⟨_, rfl⟩
     rw [<- hRn] at heq
     have hne2 : ∀ parts' p', Rn = .ok (parts', p') -> parts' ≠ [] := fun parts' p' h e => by
      have := (A6m hF (hRn.symm.trans h)).2.2.1
      rw [e] at this
      simp at this
     have hK : KT2 q t 58 p1 (64 - (n : Int)) parts Rn := by rw [hRn]; exact htm (by omega) (by omega)
     have hK2 := KT2.lift hK (H := H0) (b := 1) (NX := 2) r01 (by omega) hne2
     cases hRe : Rn with
     | error e =>
      rw [hRe] at hK2 heq
      simp only at heq
      have he0 : e ≠ 0 := B5t (A8a n) hF (hRn.symm.trans hRe)
      have hb : A1d Tryz.prog (G q) 58 [.t t, .t (iv (p1 : Int)), .t (iv (64 - (n : Int))), rowP eD 1 parts] H0 2 (.t (.tu [nilS, iv 0, iv e])) (B5i H0 1 2 parts (.error e)) 3 := hK2
      have l0 : Abs.look (B5i H0 1 2 parts (.error e)) 0 = some zD := by
       show Abs.look (if parts.isEmpty then H0 else rem H0 1) 0 = some zD
       split
       ·exact l00
       ·rw [A1s, if_neg (by omega), l00]
      obtain ⟨H5, hH5⟩ : ∃ H5, H5 = B5i H0 1 2 parts (.error e) := ⟨_, rfl⟩
      have hfr : (∀ k x, Abs.look H0 k = some x -> k < 2) -> ∀ k x, Abs.look H5 k = some x -> k < 3 := by rw [hH5]; exact E2c
      rw [<- hH5] at hb l0
      have C' := HT.ctxH (.cons (A2q hb hfr) .nil) mixed
      have ho := A2d [.t t, .t (iv (p1 : Int)), .t (iv (64 - (n : Int))), rowP eD 1 parts] H0 2 (.t (.tu [nilS, iv 0, iv e]), H5, 3)
      rw [hH0] at htr
      rw [hH0] at ho C'
      refine A0c C' ?_
      simp -implicitDefEqProofs [SWh, tbW, h1, htr, hfu2, A3a, e1, ho]
      refine Abs.Next.mk ⟨f', 0, [], e⟩ ⟨.inl ⟨he0, heq.symm⟩, by show f' < f' + 1; omega⟩ ?_
      exact A2k (k := 1) (b := 1) (.inl rfl) (by omega) (by omega) (by simp -implicitDefEqProofs [A0v, renL, ren, A0m, A0x, under, l0]) (by simp -implicitDefEqProofs [ren, under, rowP])
     | ok y =>
      obtain ⟨parts', p2⟩ := y
      rw [hRe] at hK2 heq
      simp only at heq
      have hfw := A6m hF (hRn.symm.trans hRe)
      rw [hLl] at hfw
      have hb : A1d Tryz.prog (G q) 58 [.t t, .t (iv (p1 : Int)), .t (iv (64 - (n : Int))), rowP eD 1 parts] H0 2 (.tu [rowP eD 2 parts', .t (iv (p2 : Int)), .t (iv 0)]) (B5i H0 1 2 parts (.ok (parts', p2))) 3 := hK2
      obtain ⟨H5, hH5⟩ : ∃ H5, H5 = B5i H0 1 2 parts (.ok (parts', p2)) := ⟨_, rfl⟩
      have l0 : Abs.look H5 0 = some zD := by
       rw [hH5]
       unfold B5i
       rw [look_cons, if_neg (by omega)]
       split
       ·exact l00
       ·rw [A1s, if_neg (by omega), l00]
      have r5 : A0n eD 25 H5 2 parts' := by rw [hH5]; exact .inr (by unfold B5i; rw [look_cons, if_pos rfl])
      have hfr : (∀ k x, Abs.look H0 k = some x -> k < 2) -> ∀ k x, Abs.look H5 k = some x -> k < 3 := by rw [hH5]; exact E2c
      rw [<- hH5] at hb
      have C' := HT.ctxH (.cons (A2q hb hfr) .nil) mixed
      have ho := A2d [.t t, .t (iv (p1 : Int)), .t (iv (64 - (n : Int))), rowP eD 1 parts] H0 2 (.tu [rowP eD 2 parts', .t (iv (p2 : Int)), .t (iv 0)], H5, 3)
      rw [hH0] at htr ho C'
      refine A0c C' ?_
      simp -implicitDefEqProofs [SWh, tbW, h1, htr, hfu2, A3a, e1, ho]
      refine Abs.Next.mk ⟨f', p2, parts', 0⟩ ⟨.inr ⟨rfl, by show p2 <= _; omega, by show L.length - p2 < f'; omega, by show parts'.length <= 256; have := hfw.2.2.2; omega, hne2 _ _ hRe, heq⟩, by show f' < f' + 1; omega⟩ ?_
      exact A2k (k := 2) (b := 1) r5 (by omega) (by omega) (by simp -implicitDefEqProofs [A0v, renL, ren, A0m, A0x, under, l0]) (by simp -implicitDefEqProofs [A1c, A0o, ren, under])
 ·rintro a h
  refine C9y C0 ?_
  rcases h with ⟨he, hR⟩ | ⟨he, hne, hR⟩
  ·rw [hR] at hRf
   exact .inl ⟨he, hRf⟩
  ·rw [hR] at hRf
   exact .inr ⟨he, hne, hRf⟩
theorem D2p (ht : IsS eTok t l) (hlim : l.length <= 1000000) {n : Nat} (hW : WhOK q t l n) (hn : n <= 64) (hi : i <= l.length) : A1k Tryz.prog (G q) 35 [t, iv (i : Int), iv (64 - (n : Int))] (· = A3m (desS (l.map kt) (n + 1) i)) := by
 have HT : A0z Tryz.prog (G q) (tbW l t) := .cons (B1i ht) (.cons B7l .nil)
 have C := HT.ctx mixed
 have hlen : A2f (.t t) = some (.t (iv (l.length : Int))) := ht.len
 have hlv : ¬ ((64 : Int) < 64 - (n : Int)) := by omega
 have hT := C9x (q := q) ht hlim hW hn hi (parts := []) (by simp)
 have hF := A5g (l := l.map kt) n
 obtain ⟨L, hL⟩ : ∃ L, L = l.map kt := ⟨_, rfl⟩
 have hLl : L.length = l.length := by rw [hL, List.length_map]
 rw [<- hL] at hT hF ⊢
 obtain ⟨Rt, hRt⟩ : ∃ Rt, Rt = A6d L (desS L n) i [] := ⟨_, rfl⟩
 rw [<- hRt] at hT
 obtain ⟨R2, hR2⟩ : ∃ R2 : Res (List Ds), R2 = (match A6d L (desS L n) i [] with
   | .error e => .error e
   | .ok (parts, p1) => andS L (desS L n) (L.length + 1) p1 parts) := ⟨_, rfl⟩
 have hR : desS L (n + 1) i = oneR R2 := by
  rw [hR2]
  unfold desS
  by_cases hlt : L.length <= i
  ·rw [if_pos hlt]
   have : A6d L (desS L n) i [] = .error 9 := by unfold A6d; rw [List.getElem?_eq_none hlt]
   rw [this]
   rfl
  ·rw [if_neg hlt]
   cases A6d L (desS L n) i [] with
   | error e => rfl
   | ok y =>
    obtain ⟨parts, p1⟩ := y
    simp only
    cases andS L (desS L n) (L.length + 1) p1 parts <;> rfl
 rw [hR]
 rw [<- hRt] at hR2
 have hne : ∀ parts' p, Rt = .ok (parts', p) -> parts' ≠ [] := fun parts' p h e => by
  have := (A6m hF (hRt.symm.trans h)).2.2.1
  rw [e] at this
  simp at this
 have hK := KT2.lift hT (H := [(0, zD)]) (b := 0) (NX := 1) (.inl rfl) (by omega) hne
 -- the guard
 have hg : ∀ {Φ : A0u} (C : Ctx Tryz.prog (G q) Φ) (hm : MC Tryz.prog (G q) 0 63 midW (B2a [RV.cell 6 true 4, RV.tmp 7, RV.tmp 8] (· = A3m (oneR R2))) ⟨[(0, .t t), (1, .t (iv (i : Int))), (2, .t (iv (64 - (n : Int)))), (6, .ptr 0 0)], [(0, zD)], 1, 63⟩), A1k Tryz.prog (G q) 35 [t, iv (i : Int), iv (64 - (n : Int))] (· = A3m (oneR R2)) := by
  intro Φ C hm
  refine B6o.call rfl ?_
  unfold A2w
  refine A0a C ?_
  simp -implicitDefEqProofs
  by_cases hlt : i < l.length
  ·have h1 : (i : Int) < (l.length : Int) := by omega
   refine A0a C ?_
   simp -implicitDefEqProofs [hlen, h1, hlt, hlv]
   exact MC.sub (s' := ⟨[(0, .t t), (1, .t (iv (i : Int))), (2, .t (iv (64 - (n : Int)))), (6, .ptr 0 0)], [(0, zD)], 1, 63⟩) (A1i (by simp -implicitDefEqProofs)) rfl hm
  ·have h1 : ¬ (i : Int) < (l.length : Int) := by omega
   refine A0a C ?_
   simp -implicitDefEqProofs [hlen, h1, hlt]
   exact MC.sub (s' := ⟨[(0, .t t), (1, .t (iv (i : Int))), (2, .t (iv (64 - (n : Int)))), (6, .ptr 0 0)], [(0, zD)], 1, 63⟩) (A1i (by simp -implicitDefEqProofs)) rfl hm
 cases hRe : Rt with
 | error e =>
  rw [hRe] at hK hR2
  simp only at hR2
  have he0 : e ≠ 0 := B5t (A8a n) hF (hRt.symm.trans hRe)
  have hb : A1d Tryz.prog (G q) 58 [.t t, .t (iv (i : Int)), .t (iv (64 - (n : Int))), .t (.v (.slice none 0 0))] [(0, zD)] 1 (.t (.tu [nilS, iv 0, iv e])) [(0, zD)] 2 := hK
  have C' := HT.ctxH (.cons (A2q hb (fun hf k x hk => by have := hf k x hk; omega)) .nil) mixed
  have ho := A2d [.t t, .t (iv (i : Int)), .t (iv (64 - (n : Int))), .t (.v (.slice none 0 0))] [(0, zD)] 1 (.t (.tu [nilS, iv 0, iv e]), [(0, zD)], 2)
  refine hg C' ?_
  rw [hR2]
  unfold midW A2w
  refine A0a C' ?_
  simp -implicitDefEqProofs [ho]
  exact MC.sub (s' := SWh t (64 - (n : Int)) ⟨0, 0, [], e⟩) (A1i (H := [(0, zD)]) (nx := 2) (env' := [(9, .t nilS), (1, .t (iv 0)), (10, .t (iv e)), (2, .t (iv (64 - (n : Int)))), (0, .t t), (6, .ptr 0 0)]) (by simp -implicitDefEqProofs)) rfl (C5b C' he0)
 | ok y =>
  obtain ⟨parts, p⟩ := y
  rw [hRe] at hK hR2
  simp only at hR2
  have hfw := A6m hF (hRt.symm.trans hRe)
  rw [hLl] at hfw
  have hb : A1d Tryz.prog (G q) 58 [.t t, .t (iv (i : Int)), .t (iv (64 - (n : Int))), .t (.v (.slice none 0 0))] [(0, zD)] 1 (.tu [rowP eD 1 parts, .t (iv (p : Int)), .t (iv 0)]) [(1, A3h eD 25 parts), (0, zD)] 2 := hK
  have C' := HT.ctxH (.cons (A2q hb (fun hf k x hk => by
   simp only [Abs.look] at hk
   split at hk
   ·omega
   ·split at hk
    ·omega
    ·cases hk)) .nil) mixed
  have ho := A2d [.t t, .t (iv (i : Int)), .t (iv (64 - (n : Int))), .t (.v (.slice none 0 0))] [(0, zD)] 1 (.tu [rowP eD 1 parts, .t (iv (p : Int)), .t (iv 0)], [(1, A3h eD 25 parts), (0, zD)], 2)
  refine hg C' ?_
  unfold midW A2w
  refine A0a C' ?_
  simp -implicitDefEqProofs [ho]
  refine MC.sub (s' := SWh t (64 - (n : Int)) ⟨L.length + 1, p, parts, 0⟩) ?_ rfl (E0w ht hlim hW hn C' ?_)
  ·exact A2k (k := 1) (b := 1) (.inr rfl) (by omega) (by omega) (by simp -implicitDefEqProofs [A0v, renL, ren, A0m, A0x, under]) (by simp -implicitDefEqProofs [A1c, A0o, ren, under])
  ·rw [<- hL]
   exact .inr ⟨rfl, by show p <= _; omega, by show L.length - p < L.length + 1; omega, by show parts.length <= 256; have := hfw.2.2.2; simp at this; omega, hne _ _ hRe, hR2.symm⟩
theorem C5c (ht : IsS eTok t l) (hlim : l.length <= 1000000) : ∀ n, n <= 64 -> WhOK q t l n
 | 0, _ => fun args r h => by
  unfold gWh at h
  split at h
  ·split at h
   ·rename_i hc
    obtain ⟨rfl, h0, h1, rfl⟩ := hc
    injection h with h
    subst h
    obtain ⟨m, rfl⟩ := Int.eq_ofNat_of_zero_le h0
    exact D2o ht (by omega)
   ·cases h
  ·cases h
 | n + 1, hn => fun args r h => by
  have hW := C5c ht hlim n (by omega)
  unfold gWh at h
  split at h
  ·split at h
   ·rename_i hc
    obtain ⟨rfl, h0, h1, rfl⟩ := hc
    injection h with h
    subst h
    obtain ⟨m, rfl⟩ := Int.eq_ofNat_of_zero_le h0
    have e : (65 : Int) - ((n + 1 : Nat) : Int) = 64 - (n : Int) := by omega
    rw [e]
    exact D2p ht hlim hW (by omega) (by omega)
   ·cases h
  ·cases h
theorem E0x (ht : IsS eTok t l) (hlim : l.length <= 1000000) (hi : i <= l.length) : A1k Tryz.prog (G q) 18 [t, iv (i : Int)] (· = A3m (desS (l.map kt) 64 i)) := by
 have HT : A0z Tryz.prog (G q) [(35, gWh l t 64)] := .cons (C5c ht hlim 64 (Nat.le_refl _)) .nil
 have C := HT.ctx mixed
 have hw : gWh l t 64 [t, iv (i : Int), iv 1] = some (A3m (desS (l.map kt) 64 i)) := D6q (n := 64) hi
 refine D1p.call rfl ?_
 cases hd : desS (l.map kt) 64 i with
 | error e =>
  rw [hd] at hw
  simp only [A3m] at hw
  refine A0c C ?_
  simp -implicitDefEqProofs [B3v, hw, -endsM_ret]
  rw [C0e, ifSome_some]
  exact endT (d := zDs) (ty := 25) rfl rfl rfl rfl rfl
 | ok y =>
  obtain ⟨d, p⟩ := y
  rw [hd] at hw
  simp only [A3m] at hw
  refine A0c C ?_
  simp -implicitDefEqProofs [B3v, hw, -endsM_ret]
  rw [C0e, ifSome_some]
  exact endT (d := d) (ty := 25) rfl rfl rfl rfl rfl
variable {q : Gl}
def B1k (l : List UInt8) : T := if 65536 < l.length then .tu [nilS, iv 0, iv 7] else match B5f l 1 with
 | .error x => .tu [nilS, iv (x.1 : Int), iv x.2]
 | .ok ts => .tu [A2h eTok ts, iv 0, iv 0]
theorem D6v {α : Type} {e : Enc α} {ty : Nat} {H : Heap} {b : Nat} {l : List α} (h : A0n e ty H b l) (y z : T) :
  toT H (oneOf [rowP e b l, .t y, .t z]) = some (.tu [A2h e l, y, z], B8l b l) := by
 have ht := h.toT
 cases l with
 | nil => rfl
 | cons x r =>
  show toT H (.tu [rowP e b (x :: r), .t y, .t z]) = _
  simp only [toT, toTs, ht, Option.map_some, List.append_nil]
structure Sc where
 f : Nat
 p : Nat
 ln : Nat
 out : List Tok
def SSc (s : ByteArray) (a : Sc) : A0b := ⟨[(6, rowP eTok 1 a.out), (5, .ptr 0 0), (0, .t (sv s))], [(0, scr s a.p a.ln)] ++ rowH eTok 44 1 a.out, 2, 43⟩
structure OkSc (l : List UInt8) (R : Except (Nat × Int) (List Tok)) (a : Sc) : Prop where
 le : a.p <= l.length
 fu : l.length - a.p < a.f
 ln : a.ln <= a.p + 1
 ol : a.out.length <= a.p
 eq : ahead a.out (A5y a.f (l.drop a.p) a.ln) = R
theorem C9z (s : ByteArray) (a l : Nat) (hs : s.size <= 65536) (ha : a <= s.size) (hl : l <= 1000000) {H : Heap} {nx : Nat} (h0 : Abs.look H 0 = some (scr s a l)) (hnx : 0 < nx) :
  HOK Tryz.prog (G q) 61 (hOne [.ptr 0 0] H nx (oneOf [], upd H 0 (scr s (a + (A1m false (s.data.toList.drop a)).1) (l + (A1m false (s.data.toList.drop a)).2)), nx)) := by
 refine A2q ?_ ?_
 ·exact A1d.lift1 (cs := scc s a l) (args := []) (cs' := scc s (a + (A1m false (s.data.toList.drop a)).1) (l + (A1m false (s.data.toList.drop a)).2)) (D5g s a l hs ha hl) (b := 0) (NX := nx) (Hb := H) h0 hnx
 ·intro hfr b x hb
  rw [A0g] at hb
  split at hb
  ·omega
  ·exact hfr b x hb
theorem E0y (s : ByteArray) (a l : Nat) (hs : s.size <= 65536) (ha : a < s.size) {H : Heap} {nx : Nat} (h0 : Abs.look H 0 = some (scr s a l)) (hnx : 0 < nx) :
  HOK Tryz.prog (G q) 62 (hOne [.ptr 0 0] H nx (.t (tokT (A2b (s.data.toList.drop a)).k (A2b (s.data.toList.drop a)).t l (A2b (s.data.toList.drop a)).e), upd H 0 (scr s (a + (A2b (s.data.toList.drop a)).n) l), nx)) := by
 refine A2q ?_ ?_
 ·exact A1d.lift1 (cs := scc s a l) (args := []) (cs' := scc s (a + (A2b (s.data.toList.drop a)).n) l) (D5i s a l hs ha) (b := 0) (NX := nx) (Hb := H) h0 hnx
 ·intro hfr b x hb
  rw [A0g] at hb
  split at hb
  ·omega
  ·exact hfr b x hb
theorem st2 (k l : Int) (t : List UInt8) (x y z : PV) (R : Heap) : A1b 3 ((2, .cells 44 [x, y, z]) :: R) (.ptr 2 0) (.t (.ag (tkc k t l))) = some ((2, tkr k t l) :: R) := rfl
theorem ld2 (t : Row) (s : ByteArray) (a l : Nat) (R : Heap) : A0s false 1 ((2, t) :: (0, scr s a l) :: R) (.ptr 0 2) = some (.t (iv (l : Int))) := rfl
theorem ldt (k l : Int) (t : List UInt8) (R : Heap) : A0s true 3 ((2, tkr k t l) :: R) (.ptr 2 0) = some (.t (.ag (tkc k t l))) := rfl
theorem bst (k l : Int) (t : List UInt8) : A6b 44 3 [.int .i64 0, .string ⟨#[]⟩, .int .i64 0] 1 [(0, .t (.ag (tkc k t l)))] 3 = some (.row 3 0 1 3, .cells 44 [.t (iv k), .t (sv (bs t)), .t (iv l)]) := rfl
theorem bldSc {Φ : A0u} {H : Heap} {nx : Nat} (s : ByteArray) (l : Int) : A0d Φ H nx (.build [(0, 1), (1, 1), (2, 1)] [.string ⟨#[]⟩, .int .i64 0, .int .i64 0] [0, 2]) [.t (sv s), .t (iv l)] = some (.t (.ag [sv s, iv 0, iv l]), H, nx) := rfl
set_option maxHeartbeats 2000000 in
theorem D6w (s : ByteArray) (hlim : s.size <= lim) : A1k Tryz.prog (G q) 36 [sv s] (· = B1k s.data.toList) := by
 refine C6p.call rfl ?_
 unfold B6q
 obtain ⟨l, hl⟩ : ∃ l, l = s.data.toList := ⟨_, rfl⟩
 have hlen : l.length = s.size := by rw [hl]; rfl
 rw [<- hl]
 by_cases hbig : 65536 < s.size
 ·have hb' : (65536 : Int) < (s.size : Int) := by omega
  have hT : B1k l = .tu [nilS, iv 0, iv 7] := by rw [B1k, if_pos (by omega)]
  refine A0c ctx0 ?_
  simp -implicitDefEqProofs [hb', hT]
 have hb' : ¬ (65536 : Int) < (s.size : Int) := by omega
 have hs : s.size <= 65536 := by omega
 have hT : B1k l = match B5f l 1 with
  | .error x => .tu [nilS, iv (x.1 : Int), iv x.2]
  | .ok ts => .tu [A2h eTok ts, iv 0, iv 0] := by rw [B1k, if_neg (by omega)]
 obtain ⟨R, hR⟩ : ∃ R, R = B5f l 1 := ⟨_, rfl⟩
 rw [<- hR] at hT
 refine A0a ctx0 ?_
 simp -implicitDefEqProofs
 refine A0a ctx0 ?_
 simp -implicitDefEqProofs [hb']
 refine A0a ctx0 ?_
 have bx : A2r (.t (.ag [sv s, iv 0, iv 1])) = some [.t (sv s), .t (iv 0), .t (iv 1)] := rfl
 simp -implicitDefEqProofs [-evalK_build, bldSc, bx]
 refine A0a ctx0 ?_
 simp -implicitDefEqProofs
 have hk0 := C9z (q := q) s 0 1 hs (by omega) (by omega) (H := [(0, scr s 0 1)]) (nx := 1) rfl (by omega)
 have hsl := B7c l false
 have hsn := C1n l false
 rw [<- hl, List.drop_zero] at hk0
 obtain ⟨p0, hp0⟩ : ∃ p0, p0 = 0 + (A1m false l).1 := ⟨_, rfl⟩
 obtain ⟨l0, hl0⟩ : ∃ l0, l0 = 1 + (A1m false l).2 := ⟨_, rfl⟩
 rw [<- hp0, <- hl0] at hk0
 have ctxa := A0z.nil.ctxH (.cons hk0 .nil) mixed
 have h1 := fun ps H nx o => A2d ps H nx o
 refine A2g (α := Sc) (SSc s) (fun a => OkSc l R a /\ a.p = s.size) (fun _ => rfl) ?_ ?_
 ·refine A0a ctxa ?_
  have ho : ∀ o, hOne [.ptr 0 0] [(0, scr s 0 1)] 1 o [.ptr 0 0] [(0, Row.cells 89 [.t (sv s), .t (iv 0), .t (iv 1)])] 1 = some o := fun o => A2d _ _ _ _
  simp -implicitDefEqProofs [ho, upd]
  refine A0w ?_
  refine A1l (SSc s) (fun a => a.f) (OkSc l R) ⟨l.length + 1, p0, l0, []⟩ (fun _ => rfl) ⟨by show p0 <= _; omega, by show l.length - p0 < l.length + 1; omega, by show l0 <= p0 + 1; omega, by simp, ?_⟩ ?_ rfl ?_
  ·show ahead [] (A5y (l.length + 1) (l.drop p0) l0) = R
   rw [C4k, hR, B5f, hp0, hl0, Nat.zero_add]
  ·exact A2k (k := 5) (A0n.nil eTok 44 _ _) (by omega) (by omega) (by simp -implicitDefEqProofs [A0v, renL, ren, A0m, A0x, under]) (by simp -implicitDefEqProofs [rowP, ren, under])
  ·rintro ⟨f, p, ln, out⟩ hok
   have hok' := hok
   obtain ⟨hp, hfu, hln, hol, heq⟩ := hok
   simp only at hp hfu hln hol heq
   have r0 : A0n eTok 44 ([(0, scr s p ln)] ++ rowH eTok 44 1 out) 1 out := (A0n.head' eTok 44 1 out).cons (by omega)
   by_cases hlt : p < s.size
   ·have hn := E0y (q := q) s p ln hs hlt (H := [(0, scr s p ln)] ++ rowH eTok 44 1 out) (nx := 2) rfl (by omega)
    obtain ⟨D, hD⟩ : ∃ D, D = l.drop p := ⟨_, rfl⟩
    have hDl : D.length = l.length - p := by rw [hD, List.length_drop]
    have hDe : D.isEmpty = false := by
     cases D with
     | nil => simp at hDl; omega
     | cons _ _ => rfl
    rw [<- hl, <- hD] at hn
    rw [<- hD] at heq
    obtain ⟨f', rfl⟩ : ∃ f', f = f' + 1 := ⟨f - 1, by omega⟩
    rw [A5y, hDe] at heq
    simp only [Bool.false_eq_true, if_false] at heq
    obtain ⟨k, hk⟩ : ∃ k, k = (A2b D).k := ⟨_, rfl⟩
    obtain ⟨t, ht⟩ : ∃ t, t = (A2b D).t := ⟨_, rfl⟩
    obtain ⟨e, he⟩ : ∃ e, e = (A2b D).e := ⟨_, rfl⟩
    obtain ⟨n, hnn⟩ : ∃ n, n = (A2b D).n := ⟨_, rfl⟩
    have hpos := B5m D hDe
    rw [<- hk, <- ht, <- he, <- hnn] at hn
    rw [<- he, <- hnn] at hpos
    rw [<- hk, <- ht, <- he, <- hnn] at heq
    obtain ⟨p1, hp1⟩ : ∃ p1, p1 = p + n := ⟨_, rfl⟩
    rw [<- hp1] at hn
    have hu0 : upd ([(0, scr s p ln)] ++ rowH eTok 44 1 out) 0 (scr s p1 ln) = [(0, scr s p1 ln)] ++ rowH eTok 44 1 out := by
     simp [upd]
    rw [hu0] at hn
    by_cases he0 : e = 0
    ·obtain ⟨hn1, hn2⟩ := hpos he0
     rw [if_neg (by simpa using he0)] at heq
     have hdd : D.drop n = l.drop p1 := by rw [hD, List.drop_drop, hp1]
     rw [hdd] at heq
     have hsl1 := B7c (l.drop p1) false
     have hsn1 := C1n (l.drop p1) false
     rw [List.length_drop] at hsl1
     obtain ⟨p2, hp2⟩ : ∃ p2, p2 = p1 + (A1m false (l.drop p1)).1 := ⟨_, rfl⟩
     obtain ⟨ln2, hln2⟩ : ∃ x, x = ln + (A1m false (l.drop p1)).2 := ⟨_, rfl⟩
     have hdd2 : (l.drop p1).drop (A1m false (l.drop p1)).1 = l.drop p2 := by rw [List.drop_drop, hp2]
     rw [hdd2, <- hln2] at heq
     have htok : tokT k t ln e = .tu [.ag (tkc k t ln), iv e] := by rw [tokT, if_pos he0, he0]
     have hb : (e != 0) = false := by rw [he0]; rfl
     have r0' : A0n eTok 44 ((3, .cells 44 [.t (iv k), .t (sv (bs t)), .t (iv (ln : Int))]) :: (2, tkr k t ln) :: ([(0, scr s p1 ln)] ++ rowH eTok 44 1 out)) 1 out :=
      (((A0n.head' eTok 44 1 out).cons (k := 0) (by omega)).cons (k := 2) (by omega)).cons (k := 3) (by omega)
     obtain ⟨b2, H2, n2, ap2, r2, ne2, hle2, hold, hb2⟩ := A4j (e := eTok) (ty := 44) (by' := 32) (nx := 4) (m := [⟨k, t, ln⟩]) r0' (A7w (e := eTok) (b := 3) (ty := 44) ⟨k, t, ln⟩ rfl) (by simp; omega) (by simp; omega)
     have ap2' : appM 44 3 32 ((3, .cells 44 [.t (iv k), .t (sv (bs t)), .t (iv (ln : Int))]) :: (2, tkr k t ln) :: (0, scr s p1 ln) :: rowH eTok 44 1 out) 4 (rowP eTok 1 out) (.row 3 0 1 3) = some (rowP eTok b2 (out ++ [⟨k, t, ln⟩]), H2, n2) := ap2
     have hl0' : Abs.look H2 0 = some (scr s p1 ln) := (hold 0 (by omega) (by omega)).trans rfl
     have hsk := C9z (q := q) s p1 ln hs (by omega) (by omega) (H := H2) (nx := n2) hl0' (by omega)
     rw [<- hl, <- hp2, <- hln2] at hsk
     have ctxb := A0z.nil.ctxH (.cons hn (.cons hsk .nil)) mixed
     refine A0c ctxb ?_
     simp -implicitDefEqProofs [SSc, sl1, hlt, h1, htok, extractV, hb, st2, ldt, bst, ap2']
     refine Abs.Next.mk ⟨f', p2, ln2, out ++ [⟨k, t, ln⟩]⟩ ⟨⟨by show p2 <= _; omega, by show l.length - p2 < f'; omega, by show ln2 <= p2 + 1; omega, by simp; omega, ?_⟩, by show f' < f' + 1; omega⟩ ?_
     ·show ahead (out ++ [⟨k, t, ln⟩]) (A5y f' (l.drop p2) ln2) = R
      rw [<- heq]
      cases A5y f' (l.drop p2) ln2 with
      | error x => rfl
      | ok ts => show Except.ok _ = Except.ok _; simp
     ·have r2' : A0n eTok 44 (upd H2 0 (scr s p2 ln2)) b2 (out ++ [⟨k, t, ln⟩]) := r2.imp id fun h => by rw [A0g, if_neg (by omega)]; exact h
      have h02 : Abs.look (upd H2 0 (scr s p2 ln2)) 0 = some (scr s p2 ln2) := by rw [A0g, if_pos rfl, hl0']; rfl
      exact A2k (k := b2) r2' (by omega) (by omega) (by simp -implicitDefEqProofs [A0v, renL, ren, A0m, A0x, under, h02]; omega) (by simp -implicitDefEqProofs [A1c, A0o, ren, under])
    ·have hRe : R = .error (ln, e) := by
      rw [<- heq, if_pos he0]; rfl
     rw [hRe] at hT
     simp only at hT
     have ctxb := A0z.nil.ctxH (.cons hn .nil) mixed
     refine A0c ctxb ?_
     have hb : (e != 0) = true := by rw [bne_iff_ne]; exact he0
     have htok : tokT k t ln e = .tu [.ag (tkc 0 [] 0), iv e] := by rw [tokT, if_neg he0]
     simp -implicitDefEqProofs [SSc, sl1, hlt, h1, htok, extractV, hb, hT, st2, ld2]
   ·have hps : p = s.size := by omega
    subst hps
    refine A0c ctx0 ?_
    simp -implicitDefEqProofs [SSc, sl1]
    refine Abs.Next.mk ⟨f, s.size, ln, out⟩ ⟨hok', rfl⟩ ?_
    exact A2k (k := 1) r0 (by omega) (by omega) (by simp -implicitDefEqProofs [A0v, renL, ren, A0m, A0x, under]) (by simp -implicitDefEqProofs [A1c, A0o, ren, under])
 rintro ⟨f, p, ln, out⟩ ⟨hok, hps⟩
 obtain ⟨hp, hfu, hln, hol, heq⟩ := hok
 simp only at hp hfu hln hol heq hps
 subst hps
 have r0 : A0n eTok 44 ([(0, scr s s.size ln)] ++ rowH eTok 44 1 out) 1 out := (A0n.head' eTok 44 1 out).cons (by omega)
 have hd0 : l.drop s.size = [] := List.drop_eq_nil_of_le (by omega)
 have hRo : R = .ok out := by
  rw [<- heq, hd0]
  cases f with
  | zero => show Except.ok (out ++ []) = _; rw [List.append_nil]
  | succ f => rw [A5y]; show Except.ok (out ++ []) = _; rw [List.append_nil]
 rw [hRo] at hT
 simp only at hT
 have ht := D6v r0 (iv 0) (iv 0)
 refine A0c ctx0 ?_
 have ht' : toT ((0, scr s s.size ln) :: rowH eTok 44 1 out) (oneOf [rowP eTok 1 out, .t (iv 0), .t (iv 0)]) = some (.tu [A2h eTok out, iv 0, iv 0], B8l 1 out) := ht
 simp -implicitDefEqProofs [SSc, hT, -oneOf, ht']
def InZ (n p : Nat) : Prop := p <= n
def SRr (s : ByteArray) (big : Bool) (p : Nat) : A0b := ⟨[(5, .t (iv (p : Int))), (1, .t (bv big)), (0, .t (sv s))], [], 0, 20⟩
theorem D6x (s : ByteArray) (big : Bool) (hs : s.size <= 65536) : A1k Tryz.prog (G q) 50 [sv s, bv big] (· = iv (runN big s.data.toList : Int)) := by
 have hlen : s.data.toList.length = s.size := rfl
 obtain ⟨n, hn⟩ : ∃ n, n = runN big s.data.toList := ⟨_, rfl⟩
 have hnl : n <= s.size := by rw [hn, <- hlen]; exact B1f _ _
 rw [<- hn]
 refine D4q.call rfl ?_
 unfold C3w
 refine A0a ctxp ?_
 simp -implicitDefEqProofs
 refine A0a ctxp ?_
 simp -implicitDefEqProofs
 refine A2g (α := Unit) (fun _ => SRr s big n) (fun _ => True) (fun _ => rfl) ?_ ?_
 ·refine A0w ?_
  refine A1l (SRr s big) (fun p => n - p) (InZ n) 0 (fun _ => rfl) (Nat.zero_le _) ?_ rfl ?_
  ·refine A0e rfl rfl ?_ ?_ <;> simp -implicitDefEqProofs [SRr]
  ·intro p hp
   have hp : p <= n := hp
   refine A0c ctxp ?_
   by_cases hlt : p < s.size
   ·obtain ⟨c, hc⟩ : ∃ c, s.data.toList[p]? = some c := ⟨_, List.getElem?_eq_getElem hlt⟩
    have ix := A1o s p c hc
    obtain ⟨p1, hp1⟩ : ∃ p1, p1 = p + 1 := ⟨_, rfl⟩
    have e1 : IntKind.i64.wrap ((p : Int) + 1) = (p1 : Int) := by rw [hp1]; exact A1a (by omega) (by omega)
    have gq := A8v (τ := tChr) (σ := C3z) (f := fun c b => some (bv (A2i b c))) (a := cv c) (b := bv big) rfl rfl
    by_cases hpn : p < n
    ·have hd : A2i big c = true := D5e (by show p < runN big s.data.toList; omega) hc
     simp -implicitDefEqProofs [SRr, hlt, ix, tbp, gq, hd, e1]
     exact Abs.Next.mk p1 ⟨by show p1 <= n; omega, by omega⟩ (A0e rfl rfl (by simp -implicitDefEqProofs [SRr]) (by simp -implicitDefEqProofs [SRr]))
    ·have hpz : p = n := by omega
     have hd : A2i big c = false := D5f (by show s.data.toList[runN big s.data.toList]? = some c; rw [<- hn, <- hpz]; exact hc)
     subst hpz
     simp -implicitDefEqProofs [SRr, hlt, ix, tbp, gq, hd]
     exact Abs.Next.mk () trivial (A0e rfl rfl (by simp -implicitDefEqProofs [SRr]) (by simp -implicitDefEqProofs [SRr]))
   ·have hpz : p = n := by omega
    subst hpz
    simp -implicitDefEqProofs [SRr, hlt]
    exact Abs.Next.mk () trivial (A0e rfl rfl (by simp -implicitDefEqProofs [SRr]) (by simp -implicitDefEqProofs [SRr]))
 rintro _ -
 refine A0c ctxp ?_
 simp -implicitDefEqProofs [SRr]
def SRf (s : ByteArray) (k p : Nat) : A0b := ⟨[(4, .t (iv (p : Int))), (3, .t (iv (k : Int))), (0, .t (sv s))], [], 0, 25⟩
def figR (l : List UInt8) : Nat := if figN l = minN l then 0 else figN l
theorem D6y (s : ByteArray) (hs : s.size <= 65536) (h0 : 0 < s.size) : A1k Tryz.prog (G q) 51 [sv s] (· = iv (figR s.data.toList : Int)) := by
 have hlen : s.data.toList.length = s.size := rfl
 obtain ⟨l, hl⟩ : ∃ l, l = s.data.toList := ⟨_, rfl⟩
 rw [<- hl] at hlen ⊢
 obtain ⟨c0, hc0⟩ : ∃ c, l[0]? = some c := ⟨_, List.getElem?_eq_getElem (by omega)⟩
 have ix0 := A1o s 0 c0 (by rw [<- hl]; exact hc0)
 simp only [Int.natCast_zero] at ix0
 obtain ⟨n, hn⟩ : ∃ n, n = figN l := ⟨_, rfl⟩
 obtain ⟨k, hk⟩ : ∃ k, k = minN l := ⟨_, rfl⟩
 have hnl : n <= s.size := by rw [hn, <- hlen]; exact B7d _
 have hkn : k <= n := by rw [hn, hk]; unfold figN; omega
 have hr : figR l = if n = k then 0 else n := by rw [figR, hn, hk]
 have e45 : ((c0.toNat : Int) == 45) = (c0 == 45) := by
  by_cases h : c0 = 45
  ·subst h; rfl
  ·have : ¬ c0.toNat = 45 := fun e => h (UInt8.toNat_inj.1 e)
   rw [beq_eq_false_iff_ne.2 h, beq_eq_false_iff_ne]; omega
 have hk' : k = if c0 == 45 then 1 else 0 := by
  rw [hk]; unfold minN
  cases l with
  | nil => cases hc0
  | cons x t =>
   have : x = c0 := by simpa using hc0
   rw [this]
   cases h : (c0 == 45) <;> simp [h]
 refine C1h.call rfl ?_
 unfold B2m
 refine A0a ctxc ?_
 simp -implicitDefEqProofs
 refine A0a ctxc ?_
 simp -implicitDefEqProofs
 refine A2g (α := Unit) (fun _ => (⟨[(3, .t (iv (k : Int))), (0, .t (sv s))], [], 0, 25⟩ : A0b)) (fun _ => True) (fun _ => rfl) ?_ ?_
 ·refine A0c ctxc ?_
  cases h45 : (c0 == 45) with
  | true =>
   rw [h45] at hk'
   have hk1 : k = 1 := hk'
   subst hk1
   simp -implicitDefEqProofs [ix0, e45, h45]
   exact Abs.Next.mk () trivial (A0e rfl rfl (by simp -implicitDefEqProofs) (by simp -implicitDefEqProofs))
  | false =>
   rw [h45] at hk'
   have hk1 : k = 0 := hk'
   subst hk1
   simp -implicitDefEqProofs [ix0, e45, h45]
   exact Abs.Next.mk () trivial (A0e rfl rfl (by simp -implicitDefEqProofs) (by simp -implicitDefEqProofs))
 rintro _ -
 refine A0a ctxc ?_
 simp -implicitDefEqProofs
 refine A2g (α := Unit) (fun _ => SRf s k n) (fun _ => True) (fun _ => rfl) ?_ ?_
 ·refine A0w ?_
  refine A1l (SRf s k) (fun p => n - p) (InR k (n - k)) k (fun _ => rfl) ⟨Nat.le_refl _, by omega⟩ ?_ rfl ?_
  ·refine A0e rfl rfl ?_ ?_ <;> simp -implicitDefEqProofs [SRf]
  ·rintro p ⟨hp1, hp2⟩
   refine A0c ctxc ?_
   by_cases hlt : p < s.size
   ·obtain ⟨c, hc⟩ : ∃ c, l[p]? = some c := ⟨_, List.getElem?_eq_getElem (by omega)⟩
    have ix := A1o s p c (by rw [<- hl]; exact hc)
    obtain ⟨p1, hp1'⟩ : ∃ p1, p1 = p + 1 := ⟨_, rfl⟩
    have e1 : IntKind.i64.wrap ((p : Int) + 1) = (p1 : Int) := by rw [hp1']; exact A1a (by omega) (by omega)
    have hc' : (l.drop k)[p - k]? = some c := by rw [List.getElem?_drop, show k + (p - k) = p by omega]; exact hc
    have hnk : n - k = ((l.drop k).takeWhile A1f).length := by rw [hn, hk]; unfold figN; omega
    have qd := A9v A1f c
    by_cases hpn : p < n
    ·have hd : A1f c = true := D5e (by rw [<- hnk]; omega) hc'
     rw [hd] at qd
     simp -implicitDefEqProofs [SRf, hlt, ix, tbc, qd, e1]
     exact Abs.Next.mk p1 ⟨⟨by omega, by omega⟩, by omega⟩ (A0e rfl rfl (by simp -implicitDefEqProofs [SRf]) (by simp -implicitDefEqProofs [SRf]))
    ·have hpz : p = n := by omega
     have hd : A1f c = false := D5f (by rw [<- hnk, show n - k = p - k by omega]; exact hc')
     rw [hd] at qd
     subst hpz
     simp -implicitDefEqProofs [SRf, hlt, ix, tbc, qd]
     exact Abs.Next.mk () trivial (A0e rfl rfl (by simp -implicitDefEqProofs [SRf]) (by simp -implicitDefEqProofs [SRf]))
   ·have hpz : p = n := by omega
    subst hpz
    simp -implicitDefEqProofs [SRf, hlt]
    exact Abs.Next.mk () trivial (A0e rfl rfl (by simp -implicitDefEqProofs [SRf]) (by simp -implicitDefEqProofs [SRf]))
 rintro _ -
 refine A0c ctxc ?_
 by_cases hnk : n = k
 ·have hb : ((n : Int) == (k : Int)) = true := by rw [hnk]; simp
  rw [if_pos hnk] at hr
  simp -implicitDefEqProofs [SRf, hb, hr]
 ·have hb : ((n : Int) == (k : Int)) = false := by rw [beq_eq_false_iff_ne]; omega
  rw [if_neg hnk] at hr
  simp -implicitDefEqProofs [SRf, hb, hr]
def quoT (l : List UInt8) : T := if (quoN (l.drop 1)).2 = 0 then .tu [iv ((quoN (l.drop 1)).1 + 2 : Nat), iv 0] else .tu [iv 0, iv (quoN (l.drop 1)).2]
def SRq (s : ByteArray) (p : Nat) : A0b := ⟨[(4, .t (iv (p : Int))), (0, .t (sv s))], [], 0, 27⟩
theorem D6z (s : ByteArray) (hs : s.size <= 65536) (h0 : 0 < s.size) : A1k Tryz.prog (G q) 53 [sv s] (· = quoT s.data.toList) := by
 have hlen : s.data.toList.length = s.size := rfl
 obtain ⟨l, hl⟩ : ∃ l, l = s.data.toList := ⟨_, rfl⟩
 rw [<- hl] at hlen ⊢
 obtain ⟨hq1, hq2, hq3⟩ := B7e (l.drop 1)
 rw [List.length_drop] at hq1 hq2
 have hT : quoT l = if (quoN (l.drop 1)).2 = 0 then .tu [iv ((quoN (l.drop 1)).1 + 2 : Nat), iv 0] else .tu [iv 0, iv (quoN (l.drop 1)).2] := rfl
 obtain ⟨n, hn⟩ : ∃ n, n = (quoN (l.drop 1)).1 := ⟨_, rfl⟩
 obtain ⟨e, he⟩ : ∃ e, e = (quoN (l.drop 1)).2 := ⟨_, rfl⟩
 rw [<- hn, <- he] at hT
 rw [<- hn, <- he] at hq2
 rw [<- hn] at hq1
 refine C3x.call rfl ?_
 unfold B4u
 refine A0a ctx0 ?_
 simp -implicitDefEqProofs
 refine A2g (α := Unit) (fun _ => SRq s s.size) (fun _ => e = 9) (fun _ => rfl) ?_ ?_
 ·refine A0a ctx0 ?_
  simp -implicitDefEqProofs
  refine A0w ?_
  refine A1l (SRq s) (fun p => s.size - p) (OkQ l (1 + n) e 1) 1 (fun _ => rfl) ⟨Nat.le_refl _, by omega, by rw [<- hn], by rw [<- he]⟩ ?_ rfl ?_
  ·refine A0e rfl rfl ?_ ?_ <;> simp -implicitDefEqProofs [SRq]
  ·rintro p ⟨hp0, hp, hp1, hp2⟩
   refine A0c ctx0 ?_
   by_cases hlt : p < s.size
   ·obtain ⟨c, hc⟩ : ∃ c, l[p]? = some c := ⟨_, List.getElem?_eq_getElem (by omega)⟩
    have ix := A1o s p c (by rw [<- hl]; exact hc)
    have hdrop : l.drop p = c :: l.drop (p + 1) := by
     have := List.drop_eq_getElem_cons (l := l) (i := p) (by omega)
     rw [this, (List.getElem?_eq_some_iff.1 hc).2]
    rw [hdrop, quoN] at hp1 hp2
    obtain ⟨p1, hp1'⟩ : ∃ p1, p1 = p + 1 := ⟨_, rfl⟩
    rw [<- hp1'] at hp1 hp2
    have e1 : IntKind.i64.wrap ((p : Int) + 1) = (p1 : Int) := by rw [hp1']; exact A1a (by omega) (by omega)
    have b34 : ((c.toNat : Int) == 34) = decide (c.toNat = 34) := by
     by_cases h : c.toNat = 34
     ·rw [h]; rfl
     ·rw [decide_eq_false h, beq_eq_false_iff_ne]; omega
    by_cases h34 : c.toNat = 34
    ·rw [if_pos h34] at hp1 hp2
     rw [decide_eq_true h34] at b34
     have hpz : p = 1 + n := by simpa using hp1
     have he0 : e = 0 := by simpa using hp2.symm
     rw [if_pos he0, show n + 2 = p1 by omega] at hT
     simp -implicitDefEqProofs [SRq, hlt, ix, b34, e1, hT]
    ·rw [if_neg h34] at hp1 hp2
     rw [decide_eq_false h34] at b34
     have hk := D5d c
     have bad : prt c = false -> quoT l = .tu [iv 0, iv 8] := by
      intro h
      rw [h] at hp1 hp2
      simp at hp1 hp2
      rw [hT, if_neg (by omega), <- hp2]
     cases t1 : decide ((c.toNat : Int) < 32) with
     | true => rw [t1] at hk; simp -implicitDefEqProofs [SRq, hlt, ix, b34, t1, bad hk]
     | false =>
      cases t2 : decide (126 < (c.toNat : Int)) with
      | true => rw [t1, t2] at hk; simp -implicitDefEqProofs [SRq, hlt, ix, b34, t1, t2, bad hk]
      | false =>
       rw [t1, t2] at hk
       rw [hk] at hp1 hp2
       simp only [Bool.or_self, Bool.not_false, if_true] at hp1 hp2
       simp -implicitDefEqProofs [SRq, hlt, ix, b34, t1, t2, e1]
       exact Abs.Next.mk p1 ⟨⟨by omega, by omega, by omega, hp2⟩, by omega⟩ (A0e rfl rfl (by simp -implicitDefEqProofs [SRq]) (by simp -implicitDefEqProofs [SRq]))
   ·have hd0 : l.drop p = [] := List.drop_eq_nil_of_le (by omega)
    rw [hd0, quoN] at hp1 hp2
    have h2 : e = 9 := by simpa using hp2.symm
    have hps : p = s.size := by omega
    subst hps
    simp -implicitDefEqProofs [SRq]
    exact Abs.Next.mk () h2 (A0e rfl rfl (by simp -implicitDefEqProofs [SRq]) (by simp -implicitDefEqProofs [SRq]))
 rintro _ h9
 have hT9 : quoT l = .tu [iv 0, iv 9] := by rw [hT, h9, if_neg (by omega)]
 refine A0c ctx0 ?_
 simp -implicitDefEqProofs [SRq, hT9]
theorem pre2 (l : List UInt8) (x y : UInt8) : Lib.hasPrefix l [x, y] = (decide (1 < l.length) && (l.take 2 == [x, y])) := by
 cases l with
 | nil => rfl
 | cons a l =>
  cases l with
  | nil => simp [Lib.hasPrefix, List.isPrefixOf]
  | cons b l =>
   have : decide (1 < (a :: b :: l).length) = true := by simp
   rw [this, Bool.true_and]
   show (x == a && (y == b && true)) = (a == x && (b == y && true))
   have cm : ∀ u v : UInt8, (u == v) = (v == u) := by
    intro u v
    by_cases h : u = v
    ·subst h; rfl
    ·rw [beq_eq_false_iff_ne.2 h, beq_eq_false_iff_ne.2 (Ne.symm h)]
   rw [cm x a, cm y b]
def SymOk (c : UInt8) (l : List UInt8) : Prop := symS l = if symC.contains c then (1, 0) else (0, 8)
set_option maxHeartbeats 4000000 in
theorem D7a (s : ByteArray) (hs : s.size <= 65536) (h0 : 0 < s.size) : A1k Tryz.prog (G q) 54 [sv s] (· = iv ((symS s.data.toList).1 : Int)) := by
 have hlen : s.data.toList.length = s.size := rfl
 obtain ⟨l, hl⟩ : ∃ l, l = s.data.toList := ⟨_, rfl⟩
 rw [<- hl] at hlen ⊢
 obtain ⟨c, hc⟩ : ∃ c, l[0]? = some c := ⟨_, List.getElem?_eq_getElem (by omega)⟩
 have ix := A1o s 0 c (by rw [<- hl]; exact hc)
 simp only [Int.natCast_zero] at ix
 have hh : l.head? = some c := by rw [List.head?_eq_getElem?]; exact hc
 have p1 := pre2 l 60 33
 have p2 := pre2 l 33 62
 have hS : symS l = if Lib.hasPrefix l [60, 33] || Lib.hasPrefix l [33, 62] then (2, 0) else if symC.contains c then (1, 0) else (0, 8) := by
  unfold symS; rw [hh]; rfl
 rw [p1, p2] at hS
 refine C3y.call rfl ?_
 unfold B4v
 refine A0a ctx0 ?_
 simp -implicitDefEqProofs
 -- the test on two bytes
 refine A2g (α := Unit) (fun _ => (⟨[(0, .t (sv s))], [], 0, 37⟩ : A0b)) (fun _ => SymOk c l) (fun _ => rfl) ?_ ?_
 ·refine A0c ctx0 ?_
  by_cases h1 : 1 < s.size
  ·have h1' : (1 : Int) < (s.size : Int) := by omega
   rw [decide_eq_true (by omega : 1 < l.length)] at hS
   have hsl := C9j s 2 (by omega)
   have hx : (s.extract 0 2).toList = l.take 2 := by rw [stl, Lib.extract_data, <- hl]; rfl
   have hsl' : A4a (.t (sv s)) none (some (.t (.v (.int .i64 2)))) = some (.t (sv (s.extract 0 2))) := hsl
   cases b1 : (l.take 2 == [60, 33]) with
   | true =>
    rw [b1] at hS
    have hS2 : symS l = (2, 0) := by rw [hS]; rfl
    simp -implicitDefEqProofs [h1', hsl', hx, A5i, b1, hS2]
   | false =>
    cases b2 : (l.take 2 == [33, 62]) with
    | true =>
     rw [b1, b2] at hS
     have hS2 : symS l = (2, 0) := by rw [hS]; rfl
     simp -implicitDefEqProofs [h1', hsl', hx, A5i, b1, b2, hS2]
    | false =>
     rw [b1, b2] at hS
     simp -implicitDefEqProofs [h1', hsl', hx, A5i, b1, b2]
     exact Abs.Next.mk () (by show symS l = _; rw [hS]; rfl) (A0e rfl rfl (by simp -implicitDefEqProofs) (by simp -implicitDefEqProofs))
  ·have h1' : ¬ (1 : Int) < (s.size : Int) := by omega
   rw [decide_eq_false (by omega : ¬ 1 < l.length)] at hS
   simp -implicitDefEqProofs [h1']
   exact Abs.Next.mk () (by show symS l = _; rw [hS]; rfl) (A0e rfl rfl (by simp -implicitDefEqProofs) (by simp -implicitDefEqProofs))
 rintro _ hok
 have hok : symS l = if symC.contains c then (1, 0) else (0, 8) := hok
 have yes : ∀ n : Nat, symC.contains (UInt8.ofNat n) = true -> c.toNat = n -> (symS l).1 = 1 := by
  intro n h e
  have : c = UInt8.ofNat n := by rw [<- e]; simp
  rw [hok, this, h]; rfl
 refine A0c ctx0 ?_
 by_cases h40 : c.toNat = 40
 ·have b : ((c.toNat : Int) == 40) = true := by rw [h40]; rfl
  have hy : (symS l).1 = 1 := yes 40 (by decide) h40
  simp -implicitDefEqProofs [ix, b, hy]
 have f40 : ((c.toNat : Int) == 40) = false := by rw [beq_eq_false_iff_ne]; omega
 by_cases h41 : c.toNat = 41
 ·have b : ((c.toNat : Int) == 41) = true := by rw [h41]; rfl
  have hy : (symS l).1 = 1 := yes 41 (by decide) h41
  simp -implicitDefEqProofs [ix, f40, b, hy]
 have f41 : ((c.toNat : Int) == 41) = false := by rw [beq_eq_false_iff_ne]; omega
 by_cases h91 : c.toNat = 91
 ·have b : ((c.toNat : Int) == 91) = true := by rw [h91]; rfl
  have hy : (symS l).1 = 1 := yes 91 (by decide) h91
  simp -implicitDefEqProofs [ix, f40, f41, b, hy]
 have f91 : ((c.toNat : Int) == 91) = false := by rw [beq_eq_false_iff_ne]; omega
 by_cases h93 : c.toNat = 93
 ·have b : ((c.toNat : Int) == 93) = true := by rw [h93]; rfl
  have hy : (symS l).1 = 1 := yes 93 (by decide) h93
  simp -implicitDefEqProofs [ix, f40, f41, f91, b, hy]
 have f93 : ((c.toNat : Int) == 93) = false := by rw [beq_eq_false_iff_ne]; omega
 by_cases h60 : c.toNat = 60
 ·have b : ((c.toNat : Int) == 60) = true := by rw [h60]; rfl
  have hy : (symS l).1 = 1 := yes 60 (by decide) h60
  simp -implicitDefEqProofs [ix, f40, f41, f91, f93, b, hy]
 have f60 : ((c.toNat : Int) == 60) = false := by rw [beq_eq_false_iff_ne]; omega
 by_cases h62 : c.toNat = 62
 ·have b : ((c.toNat : Int) == 62) = true := by rw [h62]; rfl
  have hy : (symS l).1 = 1 := yes 62 (by decide) h62
  simp -implicitDefEqProofs [ix, f40, f41, f91, f93, f60, b, hy]
 have f62 : ((c.toNat : Int) == 62) = false := by rw [beq_eq_false_iff_ne]; omega
 by_cases h123 : c.toNat = 123
 ·have b : ((c.toNat : Int) == 123) = true := by rw [h123]; rfl
  have hy : (symS l).1 = 1 := yes 123 (by decide) h123
  simp -implicitDefEqProofs [ix, f40, f41, f91, f93, f60, f62, b, hy]
 have f123 : ((c.toNat : Int) == 123) = false := by rw [beq_eq_false_iff_ne]; omega
 by_cases h125 : c.toNat = 125
 ·have b : ((c.toNat : Int) == 125) = true := by rw [h125]; rfl
  have hy : (symS l).1 = 1 := yes 125 (by decide) h125
  simp -implicitDefEqProofs [ix, f40, f41, f91, f93, f60, f62, f123, b, hy]
 have f125 : ((c.toNat : Int) == 125) = false := by rw [beq_eq_false_iff_ne]; omega
 by_cases h44 : c.toNat = 44
 ·have b : ((c.toNat : Int) == 44) = true := by rw [h44]; rfl
  have hy : (symS l).1 = 1 := yes 44 (by decide) h44
  simp -implicitDefEqProofs [ix, f40, f41, f91, f93, f60, f62, f123, f125, b, hy]
 have f44 : ((c.toNat : Int) == 44) = false := by rw [beq_eq_false_iff_ne]; omega
 by_cases h46 : c.toNat = 46
 ·have b : ((c.toNat : Int) == 46) = true := by rw [h46]; rfl
  have hy : (symS l).1 = 1 := yes 46 (by decide) h46
  simp -implicitDefEqProofs [ix, f40, f41, f91, f93, f60, f62, f123, f125, f44, b, hy]
 have f46 : ((c.toNat : Int) == 46) = false := by rw [beq_eq_false_iff_ne]; omega
 by_cases h59 : c.toNat = 59
 ·have b : ((c.toNat : Int) == 59) = true := by rw [h59]; rfl
  have hy : (symS l).1 = 1 := yes 59 (by decide) h59
  simp -implicitDefEqProofs [ix, f40, f41, f91, f93, f60, f62, f123, f125, f44, f46, b, hy]
 have f59 : ((c.toNat : Int) == 59) = false := by rw [beq_eq_false_iff_ne]; omega
 by_cases h58 : c.toNat = 58
 ·have b : ((c.toNat : Int) == 58) = true := by rw [h58]; rfl
  have hy : (symS l).1 = 1 := yes 58 (by decide) h58
  simp -implicitDefEqProofs [ix, f40, f41, f91, f93, f60, f62, f123, f125, f44, f46, f59, b, hy]
 have f58 : ((c.toNat : Int) == 58) = false := by rw [beq_eq_false_iff_ne]; omega
 by_cases h61 : c.toNat = 61
 ·have b : ((c.toNat : Int) == 61) = true := by rw [h61]; rfl
  have hy : (symS l).1 = 1 := yes 61 (by decide) h61
  simp -implicitDefEqProofs [ix, f40, f41, f91, f93, f60, f62, f123, f125, f44, f46, f59, f58, b, hy]
 have f61 : ((c.toNat : Int) == 61) = false := by rw [beq_eq_false_iff_ne]; omega
 by_cases h38 : c.toNat = 38
 ·have b : ((c.toNat : Int) == 38) = true := by rw [h38]; rfl
  have hy : (symS l).1 = 1 := yes 38 (by decide) h38
  simp -implicitDefEqProofs [ix, f40, f41, f91, f93, f60, f62, f123, f125, f44, f46, f59, f58, f61, b, hy]
 have f38 : ((c.toNat : Int) == 38) = false := by rw [beq_eq_false_iff_ne]; omega
 by_cases h124 : c.toNat = 124
 ·have b : ((c.toNat : Int) == 124) = true := by rw [h124]; rfl
  have hy : (symS l).1 = 1 := yes 124 (by decide) h124
  simp -implicitDefEqProofs [ix, f40, f41, f91, f93, f60, f62, f123, f125, f44, f46, f59, f58, f61, f38, b, hy]
 have f124 : ((c.toNat : Int) == 124) = false := by rw [beq_eq_false_iff_ne]; omega
 by_cases h47 : c.toNat = 47
 ·have b : ((c.toNat : Int) == 47) = true := by rw [h47]; rfl
  have hy : (symS l).1 = 1 := yes 47 (by decide) h47
  simp -implicitDefEqProofs [ix, f40, f41, f91, f93, f60, f62, f123, f125, f44, f46, f59, f58, f61, f38, f124, b, hy]
 have f47 : ((c.toNat : Int) == 47) = false := by rw [beq_eq_false_iff_ne]; omega
 by_cases h35 : c.toNat = 35
 ·have b : ((c.toNat : Int) == 35) = true := by rw [h35]; rfl
  have hy : (symS l).1 = 1 := yes 35 (by decide) h35
  simp -implicitDefEqProofs [ix, f40, f41, f91, f93, f60, f62, f123, f125, f44, f46, f59, f58, f61, f38, f124, f47, b, hy]
 have f35 : ((c.toNat : Int) == 35) = false := by rw [beq_eq_false_iff_ne]; omega
 by_cases h64 : c.toNat = 64
 ·have b : ((c.toNat : Int) == 64) = true := by rw [h64]; rfl
  have hy : (symS l).1 = 1 := yes 64 (by decide) h64
  simp -implicitDefEqProofs [ix, f40, f41, f91, f93, f60, f62, f123, f125, f44, f46, f59, f58, f61, f38, f124, f47, f35, b, hy]
 have f64 : ((c.toNat : Int) == 64) = false := by rw [beq_eq_false_iff_ne]; omega
 have hno : symC.contains c = false := by
  cases h : symC.contains c with
  | false => rfl
  | true =>
   exfalso
   have hm : c ∈ symC := by simpa using h
   simp only [symC, List.mem_cons, List.not_mem_nil, or_false] at hm
   rcases hm with rfl | rfl | rfl | rfl | rfl | rfl | rfl | rfl | rfl | rfl | rfl | rfl | rfl | rfl | rfl | rfl | rfl | rfl <;> simp at *
 have hy : (symS l).1 = 0 := by rw [hok, hno]; rfl
 simp -implicitDefEqProofs [ix, f40, f41, f91, f93, f60, f62, f123, f125, f44, f46, f59, f58, f61, f38, f124, f47, f35, f64, hy]
end Go.Proofs.YtjkkgbdoeaihmaaGreatDoor
