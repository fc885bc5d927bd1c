/-
 Auxiliary facts. No statement of the program stands here.
-/
import Derived.Test.YtjkkgbdoeaihmaaGreatDoorUD3Q27
import Derived.Test.YtjkkgbdoeaihmaaGreatDoorUD3Q25
namespace Go.Proofs.YtjkkgbdoeaihmaaGreatDoor
set_option linter.unusedSimpArgs false
set_option linter.unusedVariables false
open Go Go.Abs
variable {q : Gl} {t : T} {l : List Tok} {i : Nat}
structure Rl where
 f : Nat
 p : Nat
 op : Int
 kids : List Ds
abbrev B5h (op : Int) (b : Nat) (kids : List Ds) : Row := .cells 25 [.t (iv op), .t (sv ⟨#[]⟩), .t nilS, rowP eD b kids]
def SRl (t : T) (v : Int) (diff : Bool) (a : Rl) : A0b :=
 ⟨[(1, .t (iv (a.p : Int))), (3, .t (bv diff)), (12, .t (sv (enB diff))), (11, .ptr 1 0), (2, .t (iv v)), (0, .t t), (8, .ptr 0 0)], [(1, B5h a.op 2 a.kids), (0, zD)] ++ rowH eD 25 2 a.kids, 3, 88⟩
theorem E6e (R : Heap) (d : Ds) (x0 x1 x2 x3 : PV) : A1b 4 ((3, .cells 25 [x0, x1, x2, x3]) :: R) (.ptr 3 0) (.t (dT d)) = some ((3, .cells 25 ((encD d).map .t)) :: R) := by
 cases d; rw [dT, encD]; rfl
theorem ld_3 (R : Heap) (d : Ds) : A0s true 4 ((3, .cells 25 ((encD d).map .t)) :: R) (.ptr 3 0) = some (.t (dT d)) := ld_d rfl
theorem C5a (op : Int) (kids : List Ds) : (encD (.mk op ⟨#[]⟩ [] kids)).map PV.t = [.t (iv op), .t (sv ⟨#[]⟩), .t nilS, .t (A2h eD kids)] := by rw [A4p]; rfl
theorem so1 (R : Heap) (k : Int) (y z u v : PV) : A1b 1 ((1, .cells 25 [y, z, u, v]) :: R) (.ptr 1 0) (.t (iv k)) = some ((1, .cells 25 [.t (iv k), z, u, v]) :: R) := rfl
theorem so_at {H : Heap} {b ty : Nat} {x0 x1 x2 x3 : PV} (h : Abs.look H b = some (.cells ty [x0, x1, x2, x3])) (k : Int) : A1b 1 H (.ptr b 0) (.t (iv k)) = some (upd H b (.cells ty [.t (iv k), x1, x2, x3])) := by
 simp only [A1b, h]; rfl
theorem D6s {P : Program} {G : A0t} {B b nx n : Nat} {op : Int} {kids : List Ds} {env env' : List (Nat × PV)} {H : Heap} (hB : B <= 2) (hr : A0n eD 25 H b kids) (hb : 1 < b) (h1 : Abs.look H 1 = some (B5h op b kids)) (h0 : Abs.look H 0 = some zD)
  (he : ∀ x ∈ env', ∃ p, Abs.look env x.1 = some p /\ frzP H [b] p = x.2 /\ under 2 x.2 = true) :
  Sub P G B ⟨env, H, nx, n⟩ ⟨env', [(1, .cells 25 ((encD (.mk op ⟨#[]⟩ [] kids)).map .t)), (0, zD)], 2, n⟩ := by
 refine B5u [b] hB he ?_
 intro y hy
 simp only [List.mem_cons, List.not_mem_nil, or_false] at hy
 rcases hy with rfl | rfl
 ·exact ⟨by simp; omega, by show 1 < 2; omega, B2x _ _, _, h1, by rw [C5a]; simp only [C2b, List.map_cons, List.map_nil, A6z, B4e hr List.mem_cons_self]⟩
 ·exact ⟨by simp; omega, by show 0 < 2; omega, rfl, _, h0, rfl⟩
theorem E0v (ht : IsS eTok t l) (hlim : l.length <= 1000000) {n : Nat} (hW : WhOK q t l n) (hn : n <= 64) (hi : i <= l.length) (diff : Bool) : A1k Tryz.prog (G q) 90 [t, iv (i : Int), iv (64 - (n : Int)), bv diff] (· = A3m (lstR (l.map kt) (desS (l.map kt) n) diff i)) := by
 have C := (E2a ht hW).ctx mixed
 obtain ⟨L, hL⟩ : ∃ L, L = l.map kt := ⟨_, rfl⟩
 have hLl : L.length = l.length := by rw [hL, List.length_map]
 have his : ∀ (i : Nat) (s : ByteArray) (b : Bool), isSy L i s.data.toList = b -> gRis l t [t, iv (i : Int), sv s] = some (bv b) := fun i s b h => by rw [B4f, <- hL, h]
 have hwr : ∀ (i : Nat), gRwr l t [t, iv (i : Int)] = some (iv (A4f L i)) := fun i => by rw [B7m, hL]
 have hwh : ∀ {i : Nat}, i <= l.length -> gWh l t n [t, iv (i : Int), iv (65 - (n : Int))] = some (A3m (desS L n i)) := fun h => by rw [D6q h, hL]
 have hF := A5g (l := L) n
 rw [<- hL]
 have ev : IntKind.i64.wrap (64 - (n : Int) + 1) = 65 - (n : Int) := by
  rw [A4h (by omega) (by omega)]; omega
 obtain ⟨R, hR⟩ : ∃ R, R = lstR L (desS L n) diff i := ⟨_, rfl⟩
 rw [<- hR]
 unfold lstR at hR
 refine D1t.call rfl ?_
 unfold B9n
 refine A0a C ?_
 simp -implicitDefEqProofs
 refine A0a C ?_
 simp -implicitDefEqProofs [-evalK_build, bd1, st1]
 refine A0a C ?_
 simp -implicitDefEqProofs
 refine A2g (α := Unit) (fun _ => ⟨[(12, .t (sv (enB diff))), (11, .ptr 1 0), (8, .ptr 0 0), (0, .t t), (1, .t (iv (i : Int))), (2, .t (iv (64 - (n : Int)))), (3, .t (bv diff))], [(1, B5h (opB diff) 2 []), (0, zD)], 2, 88⟩) (fun _ => True) (fun _ => rfl) ?_ ?_
 ·cases diff with
  | false =>
   refine A0c C ?_
   simp -implicitDefEqProofs
   exact Abs.Next.mk () trivial (A1i (by simp -implicitDefEqProofs [enB]))
  | true =>
   refine A0c C ?_
   simp -implicitDefEqProofs [so1]
   exact Abs.Next.mk () trivial (A1i (by simp -implicitDefEqProofs [enB]))
 ·rintro ⟨⟩ -
  have sz0 : ∀ {H : Heap} {x0 x1 x2 x3 : PV}, Abs.look H 0 = some (.cells 25 [x0, x1, x2, x3]) -> A1b 4 H (.ptr 0 0) (.t (dT zDs)) = some (upd H 0 (.cells 25 ((encD zDs).map .t))) := fun h => st_d h
  have ew : ∀ p : Nat, p < l.length -> IntKind.i64.wrap ((p : Int) + 1) = ((p + 1 : Nat) : Int) := fun p hp => A1a (by omega) (by omega)
  cases hs : isSy L i (enB diff).data.toList with
  | true =>
   rw [hs] at hR
   simp only [if_true] at hR
   have hlt : i < l.length := by have := A1q hs; omega
   have h1 := his i (enB diff) true hs
   obtain ⟨i1, hi1⟩ : ∃ i1, i1 = i + 1 := ⟨_, rfl⟩
   have e1 : IntKind.i64.wrap ((i : Int) + 1) = (i1 : Int) := by rw [hi1]; exact ew i hlt
   rw [<- hi1] at hR
   have ld : A0s true 4 [(1, B5h (opB diff) 2 []), (0, zD)] (.ptr 1 0) = some (.t (dT (.mk (opB diff) ⟨#[]⟩ [] []))) := ld_d (ty := 25) (by rw [C5a]; rfl)
   have st : A1b 4 [(1, B5h (opB diff) 2 []), (0, zD)] (.ptr 0 0) (.t (dT (.mk (opB diff) ⟨#[]⟩ [] []))) = some _ := st_d rfl
   rw [hR]
   refine A0a C ?_
   simp -implicitDefEqProofs [tbR, h1, ld, st, e1, -endsM_ret]
   exact endT (d := .mk (opB diff) ⟨#[]⟩ [] []) (ty := 25) rfl rfl rfl rfl rfl
  | false =>
   rw [hs] at hR
   simp only [Bool.false_eq_true, if_false] at hR
   have h1 := his i (enB diff) false hs
   refine A0a C ?_
   simp -implicitDefEqProofs [tbR, h1]
   refine A0w ?_
   refine A1l (SRl t (64 - (n : Int)) diff) (fun a => a.f) (fun a => a.p <= L.length /\ L.length - a.p < a.f /\ a.kids.length <= 255 /\ lsR L (desS L n) (enB diff).data.toList diff a.f a.p a.op a.kids = R) ⟨L.length + 1, i, opB diff, []⟩ (fun _ => rfl) ⟨by show i <= _; omega, by show L.length - i < L.length + 1; omega, by simp, hR.symm⟩ ?_ rfl ?_
   ·exact A2k (k := 2) (b := 2) (.inl rfl) (by omega) (by omega) (by simp -implicitDefEqProofs [A0v, renL, ren, A0m, A0x, under, rowP]) (by simp -implicitDefEqProofs [ren, under])
   ·rintro ⟨f, p, op, kids⟩ ⟨hp, hfu, hkl, heq⟩
    simp only at hp hfu hkl heq
    rw [hLl] at hp hfu
    obtain ⟨f', rfl⟩ : ∃ f', f = f' + 1 := ⟨f - 1, by omega⟩
    rw [lsR] at heq
    refine A0w ?_
    have hw := hwh hp
    cases hd : desS L n p with
    | error e =>
     rw [hd] at hw heq
     simp only [A3m] at hw
     simp only at heq
     have hne0 := A8a n _ _ hd
     have hb : (e != 0) = true := by simpa using hne0
     rw [<- heq]
     refine A0a C ?_
     simp -implicitDefEqProofs [SRl, tbR, ev, hw]
     rw [E6e, ifSome_some]
     refine A0c C ?_
     have sz := sz0 (H := (3, .cells 25 ((encD zDs).map PV.t)) :: (1, B5h op 2 kids) :: (0, zD) :: rowH eD 25 2 kids) rfl
     simp -implicitDefEqProofs [hb, -evalK_build, bdZ, sz, -endsM_ret]
     exact endT (d := zDs) (ty := 25) rfl rfl rfl rfl rfl
    | ok y =>
     obtain ⟨d, p1⟩ := y
     rw [hd] at hw heq
     simp only [A3m] at hw
     simp only at heq
     have hf1 := hF _ _ _ hd
     rw [hLl] at hf1
     refine A0a C ?_
     simp -implicitDefEqProofs [SRl, tbR, ev, hw]
     rw [E6e, ifSome_some]
     refine A0a C ?_
     simp -implicitDefEqProofs
     obtain ⟨H0, hH0⟩ : ∃ H0 : Heap, H0 = (3, .cells 25 ((encD d).map PV.t)) :: (1, B5h op 2 kids) :: (0, zD) :: rowH eD 25 2 kids := ⟨_, rfl⟩
     rw [<- hH0]
     have ld3 : A0s true 4 H0 (.ptr 3 0) = some (.t (dT d)) := by rw [hH0]; exact ld_3 _ _
     have ldk : A0s false 1 H0 (.ptr 1 3) = some (rowP eD 2 kids) := ld_c (cs := [.t (iv op), .t (sv ⟨#[]⟩), .t nilS, rowP eD 2 kids]) (by rw [hH0]; rfl)
     obtain ⟨kids', hkids⟩ : ∃ kids', kids' = kids ++ [d] := ⟨_, rfl⟩
     have hkl' : kids'.length = kids.length + 1 := by rw [hkids]; simp
     have hkne : kids' ≠ [] := by rw [hkids]; simp
     rw [<- hkids] at heq
     obtain ⟨b2, H2, n2, ap2, r2, ne2, hle2, hold, hb2⟩ := A4j (e := eD) (ty := 25) (by' := 72) (nx := 5) (m := [d]) (H := (4, .cells 25 ((encD d).map .t)) :: H0) (b := 2) (l := kids)
      (by rw [hH0]; exact ((((A0n.head' eD 25 2 kids).cons (by omega)).cons (by omega)).cons (by omega)).cons (by omega)) (A7w (e := eD) (b := 4) (ty := 25) d rfl) (by simp; omega) (by simp; omega)
     have ap2' : appM 25 4 72 ((4, .cells 25 ((encD d).map .t)) :: H0) 5 (rowP eD 2 kids) (.row 4 0 1 4) = some (rowP eD b2 kids', H2, n2) := by rw [hkids]; exact ap2
     rw [<- hkids] at r2
     have l20 : Abs.look H2 0 = some zD := (hold 0 (by omega) (by omega)).trans (by rw [hH0]; rfl)
     have l21 : Abs.look H2 1 = some (B5h op 2 kids) := (hold 1 (by omega) (by omega)).trans (by rw [hH0]; rfl)
     have st := E1x l21 0 b2 kids'
     obtain ⟨H3, hH3⟩ : ∃ H3 : Heap, H3 = upd H2 1 (B5h op b2 kids') := ⟨_, rfl⟩
     rw [<- hH3] at st
     have l30 : Abs.look H3 0 = some zD := by rw [hH3, A0g, if_neg (by omega), l20]
     have l31 : Abs.look H3 1 = some (B5h op b2 kids') := by rw [hH3, A0g, if_pos rfl, l21]; rfl
     have r3 : A0n eD 25 H3 b2 kids' := r2.imp id fun h => by rw [hH3, A0g, if_neg (by omega)]; exact h
     refine A0a C ?_
     simp -implicitDefEqProofs [ld3, ldk, bsD, ap2', st]
     obtain ⟨p2, hp2⟩ : ∃ p2, p2 = p1 + 1 := ⟨_, rfl⟩
     rw [<- hp2] at heq
     cases hen : isSy L p1 (enB diff).data.toList with
     | true =>
      rw [hen] at heq
      simp only [if_true] at heq
      have hl1 := A1q hen
      rw [hLl] at hl1
      have e1 : IntKind.i64.wrap ((p1 : Int) + 1) = (p2 : Int) := by rw [hp2]; exact ew p1 hl1
      have h2 := his p1 (enB diff) true hen
      rw [<- heq]
      refine MC.sub (s' := ⟨[(14, .t (iv (p1 : Int))), (11, .ptr 1 0), (12, .t (sv (enB diff))), (0, .t t), (8, .ptr 0 0)], [(1, .cells 25 ((encD (.mk op ⟨#[]⟩ [] kids')).map .t)), (0, zD)], 2, 88⟩) (D6s (by omega) r3 (by omega) l31 l30 (by simp -implicitDefEqProofs [A6z, B5v, under])) rfl ?_
      have ld : A0s true 4 [(1, .cells 25 ((encD (.mk op ⟨#[]⟩ [] kids')).map PV.t)), (0, zD)] (.ptr 1 0) = some (.t (dT (.mk op ⟨#[]⟩ [] kids'))) := ld_d rfl
      have st5 : A1b 4 [(1, .cells 25 ((encD (.mk op ⟨#[]⟩ [] kids')).map PV.t)), (0, zD)] (.ptr 0 0) (.t (dT (.mk op ⟨#[]⟩ [] kids'))) = some _ := st_d rfl
      refine A0a C ?_
      simp -implicitDefEqProofs [tbR, h2, ld, st5, e1, -endsM_ret]
      exact endT (d := .mk op ⟨#[]⟩ [] kids') (ty := 25) rfl rfl rfl rfl rfl
     | false =>
      rw [hen] at heq
      simp only [Bool.false_eq_true, if_false] at heq
      have h2 := his p1 (enB diff) false hen
      refine A0a C ?_
      simp -implicitDefEqProofs [tbR, h2]
      obtain ⟨bar, hbar⟩ : ∃ bar, bar = (!diff && isSy L p1 [124]) := ⟨_, rfl⟩
      rw [<- hbar] at heq
      refine A2g (α := Unit) (fun _ => ⟨[(16, .t (bv bar)), (14, .t (iv (p1 : Int))), (3, .t (bv diff)), (12, .t (sv (enB diff))), (11, .ptr 1 0), (2, .t (iv (64 - (n : Int)))), (0, .t t), (8, .ptr 0 0)], H3, n2, 88⟩) (fun _ => True) (fun _ => rfl) ?_ ?_
      ·cases diff with
       | true =>
        refine A0c C ?_
        simp -implicitDefEqProofs
        exact Abs.Next.mk () trivial (A1i (by simp -implicitDefEqProofs [hbar]))
       | false =>
        have h3 := his p1 ⟨#[124]⟩ bar (by rw [hbar]; rfl)
        refine A0c C ?_
        simp -implicitDefEqProofs [tbR, h3]
        exact Abs.Next.mk () trivial (A1i (by simp -implicitDefEqProofs))
      ·rintro ⟨⟩ -
       have ldo : A0s false 1 H3 (.ptr 1 0) = some (.t (iv op)) := ld_c l31
       have ldk3 : A0s false 1 H3 (.ptr 1 3) = some (rowP eD b2 kids') := ld_c l31
       have sz := sz0 l30
       have hwp := hwr p1
       have zend : ∀ (env : List (Nat × PV)) (nx : Nat) (e : Int), R = .error e -> Abs.look env 8 = some (.ptr 0 0) -> Abs.look env 9 = some (.t (iv 0)) -> Abs.look env 10 = some (.t (iv e)) -> B2a [RV.cell 8 true 4, RV.tmp 9, RV.tmp 10] (fun x => x = A3m R) .ret ⟨env, upd H3 0 (.cells 25 ((encD zDs).map .t)), nx, 88⟩ := fun env nx e h h8 h9 h10 => by
        rw [h]
        exact endT (d := zDs) (ty := 25) h8 (by rw [A0g, if_pos rfl, l30]; rfl) h9 h10 rfl
       refine A2g (α := Unit) (fun _ => ⟨[(16, .t (bv bar)), (14, .t (iv (p1 : Int))), (3, .t (bv diff)), (12, .t (sv (enB diff))), (11, .ptr 1 0), (2, .t (iv (64 - (n : Int)))), (0, .t t), (8, .ptr 0 0)], H3, n2, 88⟩) (fun _ => ¬ (op = 7 \/ bar = false /\ isSy L p1 [44] = false) /\ (bar = true \/ isSy L p1 [44] = true)) (fun _ => rfl) ?_ ?_
       ·by_cases hop : op = 7
        ·rw [if_pos (.inl hop)] at heq
         have hob : (op == 7) = true := by simpa using hop
         refine A0c C ?_
         simp -implicitDefEqProofs [tbR, ldo, hob, hwp, -evalK_build, bdZ, sz, -endsM_ret]
         exact zend _ _ _ heq.symm rfl rfl rfl
        ·have hob : (op == 7) = false := by simpa using hop
         cases hb : bar with
         | true =>
          refine A0c C ?_
          simp -implicitDefEqProofs [tbR, ldo, hob]
          exact Abs.Next.mk () (by simp [hop]) (A1i (by simp -implicitDefEqProofs))
         | false =>
          cases h44 : isSy L p1 [44] with
          | true =>
           have h3 := his p1 ⟨#[44]⟩ true h44
           refine A0c C ?_
           simp -implicitDefEqProofs [tbR, ldo, hob, h3]
           exact Abs.Next.mk () (by simp [hop]) (A1i (by simp -implicitDefEqProofs))
          | false =>
           rw [if_pos (.inr ⟨hb, h44⟩)] at heq
           have h3 := his p1 ⟨#[44]⟩ false h44
           refine A0c C ?_
           simp -implicitDefEqProofs [tbR, ldo, hob, h3, hwp, -evalK_build, bdZ, sz, -endsM_ret]
           exact zend _ _ _ heq.symm rfl rfl rfl
       ·rintro ⟨⟩ ⟨hnw, hsy⟩
        rw [if_neg hnw] at heq
        have hl1 : p1 < l.length := by
         rcases hsy with h | h
         ·have : isSy L p1 [124] = true := by rw [hbar] at h; simp only [Bool.and_eq_true] at h; exact h.2
          have := A1q this
          omega
         ·have := A1q h
          omega
        have hfu2 := C7n kids'
        have htr := r3.toT
        have e1 : IntKind.i64.wrap ((p1 : Int) + 1) = (p2 : Int) := by rw [hp2]; exact ew p1 hl1
        unfold C7k at hfu2
        by_cases hbig : 256 <= kids.length + 1
        ·rw [if_pos hbig] at heq
         rw [if_pos (by omega)] at hfu2
         refine A0a C ?_
         simp -implicitDefEqProofs [tbR, ldk3, htr, hfu2, A3a]
         refine A0c C ?_
         simp -implicitDefEqProofs [-evalK_build, bdZ, sz, -endsM_ret]
         exact zend _ _ _ heq.symm rfl rfl rfl
        ·rw [if_neg hbig] at heq
         rw [if_neg (by omega)] at hfu2
         refine A0a C ?_
         simp -implicitDefEqProofs [tbR, ldk3, htr, hfu2, A3a]
         refine A0a C ?_
         simp -implicitDefEqProofs
         have sop := so_at l31 7
         obtain ⟨H4, hH4⟩ : ∃ H4 : Heap, H4 = upd H3 1 (B5h 7 b2 kids') := ⟨_, rfl⟩
         rw [<- hH4] at sop
         have l40 : Abs.look H4 0 = some zD := by rw [hH4, A0g, if_neg (by omega), l30]
         have l41 : Abs.look H4 1 = some (B5h 7 b2 kids') := by rw [hH4, A0g, if_pos rfl, l31]; rfl
         have r4 : A0n eD 25 H4 b2 kids' := r3.imp id fun h => by rw [hH4, A0g, if_neg (by omega)]; exact h
         cases hb : bar with
         | true =>
          rw [hb] at heq
          simp only [if_true] at heq
          refine A0c C ?_
          simp -implicitDefEqProofs [sop, e1]
          refine Abs.Next.mk ⟨f', p2, 7, kids'⟩ ⟨⟨by show p2 <= _; omega, by show L.length - p2 < f'; omega, by show kids'.length <= 255; omega, heq⟩, by show f' < f' + 1; omega⟩ ?_
          exact A2k (k := b2) (b := 2) r4 (by omega) (by omega) (by simp -implicitDefEqProofs [A0v, renL, ren, A1c, A0o, A0m, A0x, under, l40, l41]; omega) (by simp -implicitDefEqProofs [ren, under])
         | false =>
          rw [hb] at heq
          simp only [Bool.false_eq_true, if_false] at heq
          refine A0c C ?_
          simp -implicitDefEqProofs [e1]
          refine Abs.Next.mk ⟨f', p2, op, kids'⟩ ⟨⟨by show p2 <= _; omega, by show L.length - p2 < f'; omega, by show kids'.length <= 255; omega, heq⟩, by show f' < f' + 1; omega⟩ ?_
          exact A2k (k := b2) (b := 2) r3 (by omega) (by omega) (by simp -implicitDefEqProofs [A0v, renL, ren, A1c, A0o, A0m, A0x, under, l30, l31]; omega) (by simp -implicitDefEqProofs [ren, under])
variable {q : Gl} {t : T} {l : List Tok} {i : Nat}
noncomputable def gPr (l : List Tok) (t : T) (n : Nat) (ts : List T) : Option T := open Classical in match ts with
 | [t', .v (.int .i64 i), .v (.int .i64 v)] => if t' = t /\ 0 <= i /\ i <= (l.length : Int) /\ v = 64 - (n : Int) then some (A3m (A7x (l.map kt) (desS (l.map kt) n) i.toNat)) else none
 | _ => none
theorem E6f {n : Nat} (hi : i <= l.length) : gPr l t n [t, iv (i : Int), iv (64 - (n : Int))] = some (A3m (A7x (l.map kt) (desS (l.map kt) n) i)) := by
 have : i = ((i : Int)).toNat := by omega
 exact (if_pos ⟨rfl, by omega, by omega, rfl⟩).trans (by rw [<- this])
theorem E6g (ht : IsS eTok t l) (hlim : l.length <= 1000000) {n : Nat} (hW : WhOK q t l n) (hn : n <= 64) : GOK Tryz.prog (G q) 117 (gPr l t n) := fun args r h => by
 unfold gPr at h
 split at h
 ·split at h
  ·rename_i hc
   obtain ⟨rfl, h0, h1, rfl⟩ := hc
   injection h with h
   subst h
   obtain ⟨m, rfl⟩ := Int.eq_ofNat_of_zero_le h0
   exact E0u ht hlim hW hn (by omega)
  ·cases h
 ·cases h
noncomputable def gLi (l : List Tok) (t : T) (n : Nat) (ts : List T) : Option T := open Classical in match ts with
 | [t', .v (.int .i64 i), .v (.int .i64 v), .v (.bool b)] => if t' = t /\ 0 <= i /\ i <= (l.length : Int) /\ v = 64 - (n : Int) then some (A3m (lstR (l.map kt) (desS (l.map kt) n) b i.toNat)) else none
 | _ => none
theorem E6h {n : Nat} (hi : i <= l.length) (b : Bool) : gLi l t n [t, iv (i : Int), iv (64 - (n : Int)), bv b] = some (A3m (lstR (l.map kt) (desS (l.map kt) n) b i)) := by
 have : i = ((i : Int)).toNat := by omega
 exact (if_pos ⟨rfl, by omega, by omega, rfl⟩).trans (by rw [<- this])
theorem E6i (ht : IsS eTok t l) (hlim : l.length <= 1000000) {n : Nat} (hW : WhOK q t l n) (hn : n <= 64) : GOK Tryz.prog (G q) 90 (gLi l t n) := fun args r h => by
 unfold gLi at h
 split at h
 ·split at h
  ·rename_i hc
   obtain ⟨rfl, h0, h1, rfl⟩ := hc
   injection h with h
   subst h
   obtain ⟨m, rfl⟩ := Int.eq_ofNat_of_zero_le h0
   exact E0v ht hlim hW hn (by omega) _
  ·cases h
 ·cases h
theorem br_R {L : List KT} {rec : Nat -> Res Ds} {f p : Nat} {parts : List Ds} : brS L rec (f + 1) p parts = match A7x L rec p with
  | .error e => .error e
  | .ok (d, p1) => if isSy L p1 [93] then .ok (parts ++ [d], p1 + 1) else if isSy L p1 [44] = false then .error (A4f L p1) else if 256 <= parts.length + 1 then .error 7 else brS L rec f (p1 + 1) (parts ++ [d]) := by
 rw [brS]
 cases A7x L rec p with
 | error e => rfl
 | ok x =>
  obtain ⟨d, p1⟩ := x
  simp only
  cases h93 : isSy L p1 [93] with
  | true =>
   rw [A7q h93 (b := [44]) (by decide)]
   have := A1q h93
   simp only [Bool.false_eq_true, if_false, if_true]
   unfold A3v
   rw [if_neg (by omega), if_pos h93]
  | false =>
   cases h44 : isSy L p1 [44] with
   | true => simp
   | false =>
    simp only [Bool.false_eq_true, if_false, if_true]
    unfold A3v A4f
    rw [h93]
    by_cases hp : L.length <= p1
    ·rw [if_pos hp, if_pos hp]
    ·rw [if_neg hp, if_neg hp]; rfl
theorem E2b (R : Heap) (d : Ds) : A1b 4 ((2, zD) :: R) (.ptr 2 0) (.t (dT d)) = some ((2, .cells 25 ((encD d).map .t)) :: R) := E4e R d _ _ _ _
def tupK (b : Nat) : Res (List Ds) -> PV
 | .ok (parts, p) => .tu [rowP eD b parts, .t (iv (p : Int)), .t (iv 0)]
 | .error e => .t (.tu [nilS, iv 0, iv e])
def D2l (b : Nat) : Res (List Ds) -> Heap
 | .ok (parts, _) => rowH eD 25 b parts
 | .error _ => []
abbrev KT2 (q : Gl) (t : T) (f : FuncId) (i : Nat) (lv : Int) (parts : List Ds) (r : Res (List Ds)) : Prop :=
 A1d Tryz.prog (G q) f [.t t, .t (iv (i : Int)), .t (iv lv), rowP eD 0 parts] (rowH eD 25 0 parts) 1 (tupK 1 r) (D2l 1 r) 2
theorem B1j {B N a b c : Nat} {parts : List Ds} {p : Nat} {s : A0b} {k : Nat} (hp : parts ≠ []) (hB : B <= 1) (hr : A0n eD 25 s.H k parts) (hn : s.n = N) (ab : a ≠ b) (ac : a ≠ c) (bc : b ≠ c) (ha : Abs.look s.env a = some (rowP eD k parts)) (hb : Abs.look s.env b = some (.t (iv (p : Int)))) (hc : Abs.look s.env c = some (.t (iv 0))) :
  B2b Tryz.prog (G q) B [RV.tmp a, RV.tmp b, RV.tmp c] (fun r0 H0 nx0 => r0 = tupK 1 (.ok (parts, p)) /\ H0 = D2l 1 (.ok (parts, p)) /\ nx0 = 2) .ret s := by
 obtain ⟨env, H, nx, n⟩ := s
 refine ⟨.inr rfl, ⟨[(a, rowP eD 1 parts), (b, .t (iv (p : Int))), (c, .t (iv 0))], rowH eD 25 1 parts, 2, n⟩, [rowP eD 1 parts, .t (iv (p : Int)), .t (iv 0)], ?_, ?_, ?_, rfl, rfl⟩
 ·refine B2q (k := k) hr (by omega) hB ?_
  intro x hx
  simp only [List.mem_cons, List.not_mem_nil, or_false] at hx
  rcases hx with rfl | rfl | rfl
  ·exact ⟨by rw [A1c, if_pos rfl]; exact ha, A0o _ _ _ _ (by omega)⟩
  ·exact ⟨hb, rfl⟩
  ·exact ⟨hc, rfl⟩
 ·simp [resM, Abs.look, ab, ac, bc, Ne.symm ab, Ne.symm ac, Ne.symm bc]
 ·cases parts with
  | nil => exact absurd rfl hp
  | cons x r => rfl
theorem A5q {B a b c : Nat} {e : Int} {s : A0b} (hB : B <= 2) (ab : a ≠ b) (ac : a ≠ c) (bc : b ≠ c) (ha : Abs.look s.env a = some (.t nilS)) (hb : Abs.look s.env b = some (.t (iv 0))) (hc : Abs.look s.env c = some (.t (iv e))) :
  B2b Tryz.prog (G q) B [RV.tmp a, RV.tmp b, RV.tmp c] (fun r0 H0 nx0 => r0 = tupK 1 (.error e) /\ H0 = D2l 1 (.error e) /\ nx0 = 2) .ret s := by
 obtain ⟨env, H, nx, n⟩ := s
 refine ⟨.inr rfl, ⟨[(a, .t nilS), (b, .t (iv 0)), (c, .t (iv e))], [], 2, n⟩, [.t nilS, .t (iv 0), .t (iv e)], ?_, ?_, rfl, rfl, rfl⟩
 ·refine C9e hB ?_
  intro x hx
  simp only [List.mem_cons, List.not_mem_nil, or_false] at hx
  rcases hx with rfl | rfl | rfl
  ·exact ⟨ha, rfl⟩
  ·exact ⟨hb, rfl⟩
  ·exact ⟨hc, rfl⟩
 ·simp [resM, Abs.look, ab, ac, bc, Ne.symm ab, Ne.symm ac, Ne.symm bc]
noncomputable def tbB (l : List Tok) (t : T) (n : Nat) : Tbl := [(59, gRis l t), (88, gRwr l t), (60, gRfu), (117, gPr l t n)]
structure Rb where
 f : Nat
 p : Nat
 parts : List Ds
def SRb (t : T) (v : Int) (a : Rb) : A0b := ⟨[(1, .t (iv (a.p : Int))), (3, rowP eD 1 a.parts), (2, .t (iv v)), (0, .t t)], rowH eD 25 1 a.parts, 2, 49⟩
theorem E6j (ht : IsS eTok t l) (hlim : l.length <= 1000000) {n : Nat} (hW : WhOK q t l n) (hn : n <= 64) (hi : i <= l.length) {parts : List Ds} (hpl : parts.length <= 255) :
  KT2 q t 89 i (64 - (n : Int)) parts (brS (l.map kt) (desS (l.map kt) n) ((l.map kt).length + 1) i parts) := by
 have HT : A0z Tryz.prog (G q) (tbB l t n) := .cons (B1i ht) (.cons (C1y ht) (.cons B7l (.cons (E6g ht hlim hW hn) .nil)))
 have C := HT.ctx mixed
 obtain ⟨L, hL⟩ : ∃ L, L = l.map kt := ⟨_, rfl⟩
 have hLl : L.length = l.length := by rw [hL, List.length_map]
 have his : ∀ (i : Nat) (s : ByteArray) (b : Bool), isSy L i s.data.toList = b -> gRis l t [t, iv (i : Int), sv s] = some (bv b) := fun i s b h => by rw [B4f, <- hL, h]
 have hwr : ∀ (i : Nat), gRwr l t [t, iv (i : Int)] = some (iv (A4f L i)) := fun i => by rw [B7m, hL]
 have hpr : ∀ {i : Nat}, i <= l.length -> gPr l t n [t, iv (i : Int), iv (64 - (n : Int))] = some (A3m (A7x L (desS L n) i)) := fun h => by rw [E6f h, hL]
 have hF := A5g (l := L) n
 rw [<- hL]
 obtain ⟨R, hR⟩ : ∃ R, R = brS L (desS L n) (L.length + 1) i parts := ⟨_, rfl⟩
 rw [<- hR]
 have ew : ∀ p : Nat, p < l.length -> IntKind.i64.wrap ((p : Int) + 1) = ((p + 1 : Nat) : Int) := fun p hp => A1a (by omega) (by omega)
 refine C1e.callP rfl ?_
 unfold B2j
 refine A0a C ?_
 simp -implicitDefEqProofs
 refine A0w ?_
 refine A1l (SRb t (64 - (n : Int))) (fun a => a.f) (fun a => a.p <= L.length /\ L.length - a.p < a.f /\ a.parts.length <= 255 /\ brS L (desS L n) a.f a.p a.parts = R) ⟨L.length + 1, i, parts⟩ (fun _ => rfl) ⟨by show i <= _; omega, by show L.length - i < L.length + 1; omega, hpl, hR.symm⟩ ?_ rfl ?_
 ·exact B2q (k := 0) (b := 1) (A0n.head' eD 25 0 parts) (by omega) (by omega) (by simp -implicitDefEqProofs [A1c, A0o, ren, under])
 ·rintro ⟨f, p, parts⟩ ⟨hp, hfu, hpl, heq⟩
  simp only at hp hfu hpl heq
  rw [hLl] at hp hfu
  obtain ⟨f', rfl⟩ : ∃ f', f = f' + 1 := ⟨f - 1, by omega⟩
  rw [br_R] at heq
  refine A0w ?_
  have hw := hpr hp
  cases hd : A7x L (desS L n) p with
  | error e =>
   rw [hd] at hw heq
   simp only [A3m] at hw
   simp only at heq
   have hne0 := C9u (A8a n) _ _ hd
   have hb : (e != 0) = true := by simpa using hne0
   rw [<- heq]
   refine A0a C ?_
   simp -implicitDefEqProofs [SRb, tbB, hw]
   have st2 := E2b (rowH eD 25 1 parts) zDs
   rw [st2, ifSome_some]
   refine A0c C ?_
   simp -implicitDefEqProofs [hb]
   exact A5q (by omega) (by omega) (by omega) (by omega) rfl rfl rfl
  | ok y =>
   obtain ⟨d, p1⟩ := y
   rw [hd] at hw heq
   simp only [A3m] at hw
   simp only at heq
   have hf1 := C1s hF hd
   rw [hLl] at hf1
   refine A0a C ?_
   simp -implicitDefEqProofs [SRb, tbB, hw]
   have st2 := E2b (rowH eD 25 1 parts) d
   rw [st2, ifSome_some]
   refine A0a C ?_
   simp -implicitDefEqProofs
   obtain ⟨H0, hH0⟩ : ∃ H0 : Heap, H0 = (2, .cells 25 ((encD d).map PV.t)) :: rowH eD 25 1 parts := ⟨_, rfl⟩
   rw [<- hH0]
   have ld2 : A0s true 4 H0 (.ptr 2 0) = some (.t (dT d)) := by rw [hH0]; exact ld_d rfl
   obtain ⟨kids', hkids⟩ : ∃ kids', kids' = parts ++ [d] := ⟨_, rfl⟩
   have hkl' : kids'.length = parts.length + 1 := by rw [hkids]; simp
   have hkne : kids' ≠ [] := by rw [hkids]; simp
   rw [<- hkids] at heq
   obtain ⟨b2, H2, n2, ap2, r2, ne2, hle2, hold, hb2⟩ := A4j (e := eD) (ty := 25) (by' := 72) (nx := 4) (m := [d]) (H := (3, .cells 25 ((encD d).map .t)) :: H0) (b := 1) (l := parts)
    (by rw [hH0]; exact ((A0n.head' eD 25 1 parts).cons (by omega)).cons (by omega)) (A7w (e := eD) (b := 3) (ty := 25) d rfl) (by simp; omega) (by simp; omega)
   have ap2' : appM 25 4 72 ((3, .cells 25 ((encD d).map .t)) :: H0) 4 (rowP eD 1 parts) (.row 3 0 1 4) = some (rowP eD b2 kids', H2, n2) := by rw [hkids]; exact ap2
   rw [<- hkids] at r2
   refine A0a C ?_
   simp -implicitDefEqProofs [ld2, bsD, ap2']
   obtain ⟨p2, hp2⟩ : ∃ p2, p2 = p1 + 1 := ⟨_, rfl⟩
   rw [<- hp2] at heq
   cases h93 : isSy L p1 [93] with
   | true =>
    rw [h93] at heq
    simp only [if_true] at heq
    have hl1 := A1q h93
    rw [hLl] at hl1
    have e1 : IntKind.i64.wrap ((p1 : Int) + 1) = (p2 : Int) := by rw [hp2]; exact ew p1 hl1
    have h2 := his p1 ⟨#[93]⟩ true h93
    rw [<- heq]
    refine A0a C ?_
    simp -implicitDefEqProofs [tbB, h2, e1]
    exact B1j (k := b2) hkne (by omega) r2 rfl (by omega) (by omega) (by omega) rfl rfl rfl
   | false =>
    rw [h93] at heq
    simp only [Bool.false_eq_true, if_false] at heq
    have h2 := his p1 ⟨#[93]⟩ false h93
    refine A0a C ?_
    simp -implicitDefEqProofs [tbB, h2]
    cases h44 : isSy L p1 [44] with
    | false =>
     rw [h44, if_pos rfl] at heq
     rw [<- heq]
     have h3 := his p1 ⟨#[44]⟩ false h44
     have hwp := hwr p1
     refine A0a C ?_
     simp -implicitDefEqProofs [tbB, h3, hwp]
     exact A5q (by omega) (by omega) (by omega) (by omega) rfl rfl rfl
    | true =>
     rw [h44, if_neg (by simp)] at heq
     have hl1 := A1q h44
     rw [hLl] at hl1
     have e1 : IntKind.i64.wrap ((p1 : Int) + 1) = (p2 : Int) := by rw [hp2]; exact ew p1 hl1
     have h3 := his p1 ⟨#[44]⟩ true h44
     refine A0a C ?_
     simp -implicitDefEqProofs [tbB, h3]
     have hfu2 := C7n kids'
     have htr := r2.toT
     unfold C7k at hfu2
     by_cases hbig : 256 <= parts.length + 1
     ·rw [if_pos hbig] at heq
      rw [if_pos (by omega)] at hfu2
      rw [<- heq]
      refine A0a C ?_
      simp -implicitDefEqProofs [tbB, htr, hfu2, A3a]
      refine A0c C ?_
      simp -implicitDefEqProofs
      exact A5q (by omega) (by omega) (by omega) (by omega) rfl rfl rfl
     ·rw [if_neg hbig] at heq
      rw [if_neg (by omega)] at hfu2
      refine A0a C ?_
      simp -implicitDefEqProofs [tbB, htr, hfu2, A3a]
      refine A0c C ?_
      simp -implicitDefEqProofs [e1]
      refine Abs.Next.mk ⟨f', p2, kids'⟩ ⟨⟨by show p2 <= _; omega, by show L.length - p2 < f'; omega, by show kids'.length <= 255; omega, heq⟩, by show f' < f' + 1; omega⟩ ?_
      exact B2q (k := b2) (b := 1) r2 (by omega) (by omega) (by simp -implicitDefEqProofs [A1c, A0o, ren, under])
variable {q : Gl} {t : T} {l : List Tok} {i : Nat}
def txS (L : List KT) (p : Nat) : List UInt8 := ((L[p]?).map (·.2)).getD []
theorem E6k {L : List KT} {rec : Nat -> Res Ds} {p : Nat} {parts : List Ds} : A6d L rec p parts =
  if A7z L p 1 = true then .ok (parts ++ [.mk 1 (bs (txS L p)) [] []], p + 1)
  else if isSy L p [64] = true then A7y parts (B2u 2 (A2u L (p + 1) 1))
  else if isSy L p [35] = true then A7y parts (B2u 3 (A2u L (p + 1) 1))
  else if isSy L p [91] = true then brS L rec (L.length + 1) (p + 1) parts
  else if isSy L p [60] = true then A7y parts (lstS L rec (p + 1))
  else if isSy L p [60, 33] = true then A7y parts (dffS L rec (p + 1))
  else .error (A4f L p) := by
 unfold A6d A7z isSy txS A4f
 cases hx : L[p]? with
 | none =>
  have : L.length <= p := by simpa using hx
  simp [this]
 | some x =>
  have hlt := (List.getElem?_eq_some_iff.1 hx).1
  have : ¬ L.length <= p := by omega
  simp only [Option.map_some, Option.getD_some, decide_eq_true_eq, Bool.and_eq_true, this, if_false]
  by_cases h1 : x.1 = 1
  ·rw [if_pos h1, if_pos h1]
  ·rw [if_neg h1, if_neg h1]
   by_cases h5 : x.1 = 5
   ·rw [if_neg (fun h => h h5)]
    simp only [h5, true_and]
   ·rw [if_pos h5]
    simp only [h5, false_and, if_false]
theorem E6l {L : List KT} {p : Nat} {k : Int} : A2u L p k = if A7z L p k = true then .ok (bs (txS L p), p + 1) else .error (A4f L p) := by
 unfold A2u A7z txS A4f
 cases hx : L[p]? with
 | none =>
  have : L.length <= p := by simpa using hx
  simp [this]
 | some x =>
  have hlt := (List.getElem?_eq_some_iff.1 hx).1
  have : ¬ L.length <= p := by omega
  simp [this]
theorem D6t {L : List KT} {p : Nat} {k : Int} (h : A7z L p k = true) : p < L.length := by
 unfold A7z at h
 split at h
 ·rename_i x hx; exact (List.getElem?_eq_some_iff.1 hx).1
 ·cases h
theorem E6m (ht : IsS eTok t l) {L : List KT} (hL : L = l.map kt) {p : Nat} (hp : p < L.length) : ∃ r k, A4v 3 (.t t) (.t (.v (.int .i64 (p : Int)))) = some (.t (.pt (iv k :: sv (bs (txS L p)) :: r))) := by
 have hp' : p < l.length := by rw [hL, List.length_map] at hp; exact hp
 obtain ⟨x, hx⟩ : ∃ x, l[p]? = some x := ⟨_, List.getElem?_eq_getElem hp'⟩
 obtain ⟨r, hr⟩ := C0b ht hx
 have : txS L p = x.t := by unfold txS; rw [hL, C4r, hx]; rfl
 rw [this]
 exact ⟨_, _, hr⟩
theorem C7s (R : Heap) (d : Ds) : A1b 4 ((1, zD) :: R) (.ptr 1 0) (.t (dT d)) = some ((1, .cells 25 ((encD d).map .t)) :: R) := by
 cases d; rw [dT, encD]; rfl
noncomputable def tbT (l : List Tok) (t : T) (n : Nat) : Tbl := [(59, gRis l t), (87, gRkd l t), (88, gRwr l t), (90, gLi l t n)]
set_option maxHeartbeats 1000000 in
theorem C9x (ht : IsS eTok t l) (hlim : l.length <= 1000000) {n : Nat} (hW : WhOK q t l n) (hn : n <= 64) (hi : i <= l.length) {parts : List Ds} (hpl : parts.length <= 255) :
  KT2 q t 58 i (64 - (n : Int)) parts (A6d (l.map kt) (desS (l.map kt) n) i parts) := by
 have HT : A0z Tryz.prog (G q) (tbT l t n) := .cons (B1i ht) (.cons (C7l ht) (.cons (C1y ht) (.cons (E6i ht hlim hW hn) .nil)))
 have C := HT.ctx mixed
 have hbr := fun {i : Nat} (hi : i <= l.length) => E6j (q := q) ht hlim hW hn hi hpl
 have hli0 := fun {i : Nat} (hi : i <= l.length) (b : Bool) => E6h (t := t) (l := l) (n := n) hi b
 obtain ⟨L, hL⟩ : ∃ L, L = l.map kt := ⟨_, rfl⟩
 have hLl : L.length = l.length := by rw [hL, List.length_map]
 have his : ∀ (i : Nat) (s : ByteArray) (b : Bool), isSy L i s.data.toList = b -> gRis l t [t, iv (i : Int), sv s] = some (bv b) := fun i s b h => by rw [B4f, <- hL, h]
 have hkd : ∀ (i : Nat) (k : Int) (b : Bool), A7z L i k = b -> gRkd l t [t, iv (i : Int), iv k] = some (bv b) := fun i s b h => by rw [C7m, <- hL, h]
 have hwr : ∀ (i : Nat), gRwr l t [t, iv (i : Int)] = some (iv (A4f L i)) := fun i => by rw [B7m, hL]
 have hF := A5g (l := L) n
 rw [<- hL] at hbr hli0 ⊢
 obtain ⟨R, hR⟩ : ∃ R, R = A6d L (desS L n) i parts := ⟨_, rfl⟩
 rw [<- hR]
 rw [E6k] at hR
 have ew : ∀ p : Nat, p < l.length -> IntKind.i64.wrap ((p : Int) + 1) = ((p + 1 : Nat) : Int) := fun p hp => A1a (by omega) (by omega)
 obtain ⟨i1, hi1⟩ : ∃ i1, i1 = i + 1 := ⟨_, rfl⟩
 obtain ⟨i2, hi2⟩ : ∃ i2, i2 = i + 2 := ⟨_, rfl⟩
 rw [<- hi1] at hR
 obtain ⟨H0, hH0⟩ : ∃ H0 : Heap, H0 = rowH eD 25 0 parts := ⟨_, rfl⟩
 have r0 : A0n eD 25 H0 0 parts := by rw [hH0]; exact A0n.head' eD 25 0 parts
 -- a description goes behind the parts
 have app : ∀ (d : Ds) (k : Nat) (H : Heap), k = 1 \/ k = 2 -> A0n eD 25 H 0 parts -> ∃ b4 H4 n4, appM 25 4 72 ((k, .cells 25 ((encD d).map .t)) :: H) (k + 1) (rowP eD 0 parts) (.row k 0 1 4) = some (rowP eD b4 (parts ++ [d]), H4, n4) /\ A0n eD 25 H4 b4 (parts ++ [d]) := by
  intro d k H hk hr
  obtain ⟨b4, H4, n4, ap, r4, _⟩ := A4j (e := eD) (ty := 25) (by' := 72) (nx := k + 1) (m := [d]) (H := (k, .cells 25 ((encD d).map .t)) :: H) (b := 0) (l := parts) (hr.cons (by omega)) (A7w (e := eD) (b := k) (ty := 25) d (by simp [Abs.look, eD])) (by simp; omega) (by simp; omega)
  exact ⟨b4, H4, n4, ap, r4⟩
 have hwi := hwr i
 refine B9o.callP rfl ?_
 rw [<- hH0]
 unfold B3y
 refine A0a C ?_
 simp -implicitDefEqProofs
 cases k1 : A7z L i 1 with
 | true =>
  rw [k1, if_pos rfl] at hR
  rw [hR]
  have hlt := D6t k1
  rw [hLl] at hlt
  have e1 : IntKind.i64.wrap ((i : Int) + 1) = (i1 : Int) := by rw [hi1]; exact ew i hlt
  obtain ⟨r, k, hr⟩ := E6m ht hL (p := i) (by omega)
  obtain ⟨b4, H4, n4, ap, r4⟩ := app (.mk 1 (bs (txS L i)) [] []) 1 H0 (.inl rfl) r0
  have hk := hkd i 1 true k1
  refine A0a C ?_
  simp -implicitDefEqProofs [tbT, hk, hr, lp1, -evalK_build, bdN, bsD, ap, e1]
  exact B1j (k := b4) (by simp) (by omega) r4 rfl (by omega) (by omega) (by omega) rfl rfl rfl
 | false =>
 rw [k1, if_neg (by simp)] at hR
 have hk := hkd i 1 false k1
 refine A0a C ?_
 simp -implicitDefEqProofs [tbT, hk]
 by_cases hat : isSy L i [64] = true \/ isSy L i [35] = true
 ·have hlt : i < l.length := by
   rcases hat with h | h
   ·have := A1q h; omega
   ·have := A1q h; omega
  have e1 : IntKind.i64.wrap ((i : Int) + 1) = (i1 : Int) := by rw [hi1]; exact ew i hlt
  have e2 : IntKind.i64.wrap ((i : Int) + 2) = (i2 : Int) := A1a (by omega) (by omega)
  obtain ⟨o, ho⟩ : ∃ o : Int, o = if isSy L i [35] = true then 3 else 2 := ⟨_, rfl⟩
  have hR2 : R = A7y parts (B2u o (A2u L i1 1)) := by
   cases h64 : isSy L i [64] with
   | true =>
    have h35 := A7q h64 (b := [35]) (by decide)
    rw [h64, if_pos rfl] at hR
    rw [h35, if_neg (by simp)] at ho
    rw [hR, ho]
   | false =>
    have h35 : isSy L i [35] = true := by rcases hat with h | h; rw [h64] at h; cases h; exact h
    rw [h64, if_neg (by simp), h35, if_pos rfl] at hR
    rw [h35, if_pos rfl] at ho
    rw [hR, ho]
  rw [E6l] at hR2
  have hwi1 := hwr i1
  -- what the two symbols' tests give
  have hsy : ∃ b64 b35, gRis l t [t, iv (i : Int), sv ⟨#[64]⟩] = some (bv b64) /\ gRis l t [t, iv (i : Int), sv ⟨#[35]⟩] = some (bv b35) /\ ((b64 = true /\ b35 = false /\ o = 2) \/ (b64 = false /\ b35 = true /\ o = 3)) := by
   refine ⟨_, _, his i ⟨#[64]⟩ _ rfl, his i ⟨#[35]⟩ _ rfl, ?_⟩
   show (isSy L i [64] = true /\ isSy L i [35] = false /\ o = 2) \/ (isSy L i [64] = false /\ isSy L i [35] = true /\ o = 3)
   cases h64 : isSy L i [64] with
   | true =>
    have h35 := A7q h64 (b := [35]) (by decide)
    rw [h35, if_neg (by simp)] at ho
    exact .inl ⟨rfl, h35, ho⟩
   | false =>
    have h35 : isSy L i [35] = true := by rcases hat with h | h; rw [h64] at h; cases h; exact h
    rw [h35, if_pos rfl] at ho
    exact .inr ⟨rfl, h35, ho⟩
  obtain ⟨b64, b35, g64, g35, hb⟩ := hsy
  cases kk : A7z L i1 1 with
  | false =>
   rw [kk, if_neg (by simp)] at hR2
   have hR3 : R = .error (A4f L i1) := hR2
   rw [hR3]
   have hk2 := hkd i1 1 false kk
   rcases hb with ⟨rfl, rfl, rfl⟩ | ⟨rfl, rfl, rfl⟩
   ·refine A0a C ?_
    simp -implicitDefEqProofs [tbT, g64, g35, e1, hk2, hwi1]
    exact A5q (by omega) (by omega) (by omega) (by omega) rfl rfl rfl
   ·refine A0a C ?_
    simp -implicitDefEqProofs [tbT, g64, g35, e1, hk2, hwi1]
    exact A5q (by omega) (by omega) (by omega) (by omega) rfl rfl rfl
  | true =>
   rw [kk, if_pos rfl] at hR2
   have e12 : i1 + 1 = i2 := by omega
   rw [e12] at hR2
   have hR3 : R = .ok (parts ++ [.mk o (bs (txS L i1)) [] []], i2) := hR2
   rw [hR3]
   have hk2 := hkd i1 1 true kk
   obtain ⟨r, k, hr⟩ := E6m ht hL (D6t kk)
   obtain ⟨b4, H4, n4, ap, r4⟩ := app (.mk o (bs (txS L i1)) [] []) 1 H0 (.inl rfl) r0
   rcases hb with ⟨rfl, rfl, rfl⟩ | ⟨rfl, rfl, rfl⟩
   ·refine A0a C ?_
    simp -implicitDefEqProofs [tbT, g64, g35, e1, hk2, hr, lp1, -evalK_build, bdN, bsD, ap, e2]
    exact B1j (k := b4) (by simp) (by omega) r4 rfl (by omega) (by omega) (by omega) rfl rfl rfl
   ·refine A0a C ?_
    simp -implicitDefEqProofs [tbT, g64, g35, e1, hk2, hr, lp1, -evalK_build, bdN, bsD, ap, e2]
    exact B1j (k := b4) (by simp) (by omega) r4 rfl (by omega) (by omega) (by omega) rfl rfl rfl
 ·have h64 : isSy L i [64] = false := by cases h : isSy L i [64]; rfl; exact absurd (.inl h) hat
  have h35 : isSy L i [35] = false := by cases h : isSy L i [35]; rfl; exact absurd (.inr h) hat
  rw [h64, if_neg (by simp), h35, if_neg (by simp)] at hR
  have g64 := his i ⟨#[64]⟩ false h64
  have g35 := his i ⟨#[35]⟩ false h35
  refine A0a C ?_
  simp -implicitDefEqProofs [tbT, g64, g35]
  cases h91 : isSy L i [91] with
  | true =>
   rw [h91, if_pos rfl] at hR
   have hlt := A1q h91
   rw [hLl] at hlt
   have e1 : IntKind.i64.wrap ((i : Int) + 1) = (i1 : Int) := by rw [hi1]; exact ew i hlt
   have g91 := his i ⟨#[91]⟩ true h91
   have hb : A1d Tryz.prog (G q) 89 [.t t, .t (iv (i1 : Int)), .t (iv (64 - (n : Int))), rowP eD 0 parts] (rowH eD 25 0 parts) 1 (tupK 1 R) (D2l 1 R) 2 := by rw [hR]; exact hbr (by omega)
   rw [<- hH0] at hb
   have hfr : ∀ r : Res (List Ds), (∀ b x, Abs.look H0 b = some x -> b < 1) -> ∀ b x, Abs.look (D2l 1 r) b = some x -> b < 2 := by
    intro r _ b x hx
    cases r with
    | error e => cases hx
    | ok y =>
     obtain ⟨_, e⟩ := A2p (A0f hx)
     injection e with e
     rw [e]
     omega
   cases hRe : R with
   | error e =>
    rw [hRe] at hb
    have hb : A1d Tryz.prog (G q) 89 [.t t, .t (iv (i1 : Int)), .t (iv (64 - (n : Int))), rowP eD 0 parts] H0 1 (.t (.tu [nilS, iv 0, iv e])) [] 2 := hb
    have C' := HT.ctxH (.cons (A2q hb (hfr (.error e))) .nil) mixed
    have ho := A2d [.t t, .t (iv (i1 : Int)), .t (iv (64 - (n : Int))), rowP eD 0 parts] H0 1 (.t (.tu [nilS, iv 0, iv e]), [], 2)
    refine A0a C' ?_
    simp -implicitDefEqProofs [tbT, g91, e1, ho]
    exact A5q (by omega) (by omega) (by omega) (by omega) rfl rfl rfl
   | ok y =>
    obtain ⟨parts', p⟩ := y
    rw [hRe] at hb
    have hb : A1d Tryz.prog (G q) 89 [.t t, .t (iv (i1 : Int)), .t (iv (64 - (n : Int))), rowP eD 0 parts] H0 1 (.tu [rowP eD 1 parts', .t (iv (p : Int)), .t (iv 0)]) (rowH eD 25 1 parts') 2 := hb
    have C' := HT.ctxH (.cons (A2q hb (hfr (.ok (parts', p)))) .nil) mixed
    have ho := A2d [.t t, .t (iv (i1 : Int)), .t (iv (64 - (n : Int))), rowP eD 0 parts] H0 1 (.tu [rowP eD 1 parts', .t (iv (p : Int)), .t (iv 0)], rowH eD 25 1 parts', 2)
    have hne : parts' ≠ [] := fun e => by
     have := (C4s hF _ _ _ _ _ (hR.symm.trans hRe)).2.2.1
     rw [e] at this
     simp at this
    refine A0a C' ?_
    simp -implicitDefEqProofs [tbT, g91, e1, ho]
    exact B1j (k := 1) hne (by omega) (A0n.head' eD 25 1 parts') rfl (by omega) (by omega) (by omega) rfl rfl rfl
  | false =>
   rw [h91, if_neg (by simp)] at hR
   have g91 := his i ⟨#[91]⟩ false h91
   refine A0a C ?_
   simp -implicitDefEqProofs [tbT, g91]
   have hl0 := lst_R hF (D6r n)
   have hl1 := dff_R hF (D6r n)
   cases h60 : isSy L i [60] with
   | true =>
    have h33 := A7q h60 (b := [60, 33]) (by decide)
    rw [h60, if_pos rfl, <- hl0] at hR
    have hlt := A1q h60
    rw [hLl] at hlt
    have e1 : IntKind.i64.wrap ((i : Int) + 1) = (i1 : Int) := by rw [hi1]; exact ew i hlt
    have g60 := his i ⟨#[60]⟩ true h60
    have g33 := his i ⟨#[60, 33]⟩ false h33
    have gl := hli0 (i := i1) (by omega) false
    cases hd : lstR L (desS L n) false i1 with
    | error e =>
     rw [hd] at gl hR
     simp only [A3m] at gl
     have hR3 : R = .error e := hR
     rw [hR3]
     have hne0 : e ≠ 0 := D6m (A8a n) hF _ _ (by rw [<- hl0]; exact hd)
     have hb : (e != 0) = true := by simpa using hne0
     have st := C7s H0 zDs
     refine A0a C ?_
     simp -implicitDefEqProofs [tbT, g60, g33, e1, gl, st, hb]
     exact A5q (by omega) (by omega) (by omega) (by omega) rfl rfl rfl
    | ok y =>
     obtain ⟨d, p⟩ := y
     rw [hd] at gl hR
     simp only [A3m] at gl
     have hR3 : R = .ok (parts ++ [d], p) := hR
     rw [hR3]
     have st := C7s H0 d
     have ld : A0s true 4 ((1, .cells 25 ((encD d).map .t)) :: H0) (.ptr 1 0) = some (.t (dT d)) := ld_d rfl
     obtain ⟨b4, H4, n4, ap, r4⟩ := app d 2 ((1, .cells 25 ((encD d).map .t)) :: H0) (.inr rfl) (r0.cons (by omega))
     refine A0a C ?_
     simp -implicitDefEqProofs [tbT, g60, g33, e1, gl, st, ld, bsD, ap]
     exact B1j (k := b4) (by simp) (by omega) r4 rfl (by omega) (by omega) (by omega) rfl rfl rfl
   | false =>
    rw [h60, if_neg (by simp)] at hR
    have g60 := his i ⟨#[60]⟩ false h60
    cases h33 : isSy L i [60, 33] with
    | true =>
     rw [h33, if_pos rfl, <- hl1] at hR
     have hlt := A1q h33
     rw [hLl] at hlt
     have e1 : IntKind.i64.wrap ((i : Int) + 1) = (i1 : Int) := by rw [hi1]; exact ew i hlt
     have g33 := his i ⟨#[60, 33]⟩ true h33
     have gl := hli0 (i := i1) (by omega) true
     cases hd : lstR L (desS L n) true i1 with
     | error e =>
      rw [hd] at gl hR
      simp only [A3m] at gl
      have hR3 : R = .error e := hR
      rw [hR3]
      have hne0 : e ≠ 0 := D6n (A8a n) hF _ _ (by rw [<- hl1]; exact hd)
      have hb : (e != 0) = true := by simpa using hne0
      have st := C7s H0 zDs
      refine A0a C ?_
      simp -implicitDefEqProofs [tbT, g60, g33, e1, gl, st, hb]
      exact A5q (by omega) (by omega) (by omega) (by omega) rfl rfl rfl
     | ok y =>
      obtain ⟨d, p⟩ := y
      rw [hd] at gl hR
      simp only [A3m] at gl
      have hR3 : R = .ok (parts ++ [d], p) := hR
      rw [hR3]
      have st := C7s H0 d
      have ld : A0s true 4 ((1, .cells 25 ((encD d).map .t)) :: H0) (.ptr 1 0) = some (.t (dT d)) := ld_d rfl
      obtain ⟨b4, H4, n4, ap, r4⟩ := app d 2 ((1, .cells 25 ((encD d).map .t)) :: H0) (.inr rfl) (r0.cons (by omega))
      refine A0a C ?_
      simp -implicitDefEqProofs [tbT, g60, g33, e1, gl, st, ld, bsD, ap]
      exact B1j (k := b4) (by simp) (by omega) r4 rfl (by omega) (by omega) (by omega) rfl rfl rfl
    | false =>
     rw [h33, if_neg (by simp)] at hR
     rw [hR]
     have g33 := his i ⟨#[60, 33]⟩ false h33
     refine A0a C ?_
     simp -implicitDefEqProofs [tbT, g60, g33]
     refine A0c C ?_
     simp -implicitDefEqProofs [tbT, hwi]
     exact A5q (by omega) (by omega) (by omega) (by omega) rfl rfl rfl
variable {q : Gl} {t : T} {l : List Tok} {i : Nat}
def B5i (H : Heap) (b NX : Nat) (parts : List Ds) : Res (List Ds) -> Heap
 | .ok (parts', _) => (NX, A3h eD 25 parts') :: (if parts.isEmpty then H else rem H b)
 | .error _ => if parts.isEmpty then H else rem H b
theorem KT2.lift {f : FuncId} {lv : Int} {parts : List Ds} {r : Res (List Ds)} (h : KT2 q t f i lv parts r) {H : Heap} {b NX : Nat} (hb : A0n eD 25 H b parts) (hlt : b < NX)
  (hne : ∀ parts' p, r = .ok (parts', p) -> parts' ≠ []) : A1d Tryz.prog (G q) f [.t t, .t (iv (i : Int)), .t (iv lv), rowP eD b parts] H NX (tupK NX r) (B5i H b NX parts r) (NX + 1) := by
 have a3 : ∀ x ∈ rowH eD 25 0 parts, Abs.look H b = some (A0v (fun _ => b) x.2) /\ x.1 < 1 /\ A0m 1 x.2 = true := fun x hx => by
  obtain ⟨hn, rfl⟩ := A2p hx
  refine ⟨?_, by show 0 < 1; omega, A0y _ _ _ _⟩
  rw [A1e]
  exact hb.resolve_left hn
 have a4 : A0x 1 [.t t, .t (iv (i : Int)), .t (iv lv), rowP eD 0 parts] = true := by simp [A0x, under, A0o]
 have ea : renL (fun _ => b) [.t t, .t (iv (i : Int)), .t (iv lv), rowP eD 0 parts] = [.t t, .t (iv (i : Int)), .t (iv lv), rowP eD b parts] := by simp only [renL, ren, A1c]
 have hu : under 2 (tupK 1 r) = true := by
  cases r with
  | error e => rfl
  | ok x => simp [tupK, under, A0x, A0o]
 have hu2 : ∀ x ∈ D2l 1 r, x.1 < 2 /\ A0m 2 x.2 = true := fun x hx => by
  cases r with
  | error e => cases hx
  | ok y =>
   obtain ⟨_, rfl⟩ := A2p hx
   exact ⟨by show 1 < 2; omega, A0y _ _ _ _⟩
 have back : ∀ k x, Abs.look (if parts.isEmpty then H else rem H b) k = some x -> Abs.look H k = some x /\ ∀ b0 x0, Abs.look (rowH eD 25 0 parts) b0 = some x0 -> b ≠ k := fun k x hk => by
  cases parts with
  | nil => exact ⟨hk, fun b0 x0 h0 => (by cases h0)⟩
  | cons y r =>
   simp only [List.isEmpty_cons, Bool.false_eq_true, if_false] at hk
   rw [A1s] at hk
   split at hk
   ·cases hk
   ·rename_i hkb; exact ⟨hk, fun _ _ _ e => hkb e.symm⟩
 have h2 := A1d.lift h (fun _ => b) NX H (B5i H b NX parts r) (fun _ _ => hlt) (fun x y hx hy _ => by omega) (by omega) a3 a4 hu hu2 (fun k x hk => by
  cases r with
  | error e => exact .inr (back k x hk)
  | ok y =>
   obtain ⟨parts', p⟩ := y
   unfold B5i at hk
   rw [look_cons] at hk
   split at hk
   ·rename_i e
    injection hk with hk
    subst hk
    refine .inl ⟨1, A3h eD 25 parts', (A0n.head' eD 25 1 parts').resolve_left (hne _ _ rfl), by simp [A1n, <- e], by rw [A1e]⟩
   ·exact .inr (back k x hk))
 rw [ea] at h2
 have e2 : ren (A1n (fun _ => b) 1 NX) (tupK 1 r) = tupK NX r := by
  cases r with
  | error e => rfl
  | ok y =>
   obtain ⟨parts', p⟩ := y
   simp only [tupK, ren, renL, A1c]
   rfl
 rw [e2] at h2
 exact h2
theorem E2c {H : Heap} {b NX : Nat} {parts : List Ds} {r : Res (List Ds)} : (∀ k x, Abs.look H k = some x -> k < NX) -> ∀ k x, Abs.look (B5i H b NX parts r) k = some x -> k < NX + 1 := fun hf k x hk => by
 have base : ∀ k x, Abs.look (if parts.isEmpty then H else rem H b) k = some x -> k < NX + 1 := fun k x hk => by
  split at hk
  ·have := hf k x hk; omega
  ·rw [A1s] at hk
   split at hk
   ·cases hk
   ·have := hf k x hk; omega
 cases r with
 | error e => exact base k x hk
 | ok y =>
  unfold B5i at hk
  rw [look_cons] at hk
  split at hk
  ·omega
  ·exact base k x hk
theorem D6u (ht : IsS eTok t l) (hi : l.length <= i) (lv : Int) : KT2 q t 58 i lv [] (.error 9) := by
 have HT : A0z Tryz.prog (G q) [(59, gRis l t), (87, gRkd l t), (88, gRwr l t)] := .cons (B1i ht) (.cons (C7l ht) (.cons (C1y ht) .nil))
 have C := HT.ctx mixed
 have his : ∀ s : ByteArray, gRis l t [t, iv (i : Int), sv s] = some (bv false) := fun s => by rw [B4f, C1p hi]
 have hkd : gRkd l t [t, iv (i : Int), iv 1] = some (bv false) := by rw [C7m, C9p hi]
 have hwr : gRwr l t [t, iv (i : Int)] = some (iv 9) := by rw [B7m]; unfold A4f; rw [List.length_map, if_pos hi]
 refine B9o.callP rfl ?_
 refine A0c C ?_
 simp -implicitDefEqProofs [B3y, his, hkd, hwr, rowP]
 exact A5q (by omega) (by omega) (by omega) (by omega) rfl rfl rfl
end Go.Proofs.YtjkkgbdoeaihmaaGreatDoor
