/-
 Auxiliary facts. No statement of the program stands here.
-/
import Derived.Test.YtjkkgbdoeaihmaaGreatDoorUD3Q33
import Derived.Test.YtjkkgbdoeaihmaaGreatDoorUD3Q35
import Derived.Test.YtjkkgbdoeaihmaaGreatDoorUD3Q38
namespace Go.Proofs.YtjkkgbdoeaihmaaGreatDoor
set_option linter.unusedSimpArgs false
set_option linter.unusedVariables false
open Go Go.Abs
variable {q : Gl}
noncomputable def D0m (ts : List T) : Option T := g1 tD (fun d => open Classical in if A8b d /\ A6h d <= 300000 then some (namT d) else none) ts
theorem D8o {c : List T} {d : Ds} (h : Abs.IsD d c) (hs : A8b d) (hn : A6h d <= 300000) : D0m [.ag c] = some (namT d) := by
 show g1 _ _ _ = _
 rw [B2p (τ := tD) (x := d) ⟨c, rfl, h⟩, if_pos ⟨hs, hn⟩]
theorem E7k : GOK Tryz.prog (G q) 24 D0m := B2o fun a x r ha hr => by
 split at hr
 ·rename_i hc
  injection hr with hr; subst hr
  obtain ⟨c, rfl, hd⟩ := ha
  exact D2y hd hc.1 hc.2
 ·cases hr
abbrev C5w (l : List UInt8) : T := .v (.string ⟨l.toArray⟩)
abbrev exS : List UInt8 := [91, 70, 46, 71, 32, 97, 93, 32, 38, 32, 60, 98, 32, 124, 32, 35, 120, 62]
def exD : Ds := .mk 4 ⟨#[]⟩ [] [.mk 5 ⟨#[]⟩ [bs [70], bs [71]] [.mk 1 (bs [97]) [] []], .mk 7 ⟨#[]⟩ [] [.mk 1 (bs [98]) [] [], .mk 3 (bs [120]) [] []]]
theorem D0n : A1g exD 1 = 0 := by decide +kernel
theorem E7l : wrD exD = exS := by decide +kernel
theorem E7m : parS exS = .ok exD := by kernel_rfl
theorem C2n : Small exD := B1n exD 1 D0n
theorem E1r : namT exD = .tu [.sl 2 [C5w [97], C5w [98]], nilS] := by
 have e1 : nmD 1 exD [] = [bs [97], bs [98]] := by
  obtain ⟨h1, h2⟩ := C2f 1 exD (acc := []) List.Pairwise.nil
  refine B5w h1 (by unfold Asc lb bs; decide) fun x => ?_
  rw [h2]
  simp [colD, colL, exD]
 have e2 : nmD 2 exD [] = [] := by
  obtain ⟨h1, h2⟩ := C2f 2 exD (acc := []) List.Pairwise.nil
  refine B5w h1 List.Pairwise.nil fun x => ?_
  rw [h2]
  simp [colD, colL, exD]
 unfold namT
 rw [e1, e2]
 rfl
section
variable (a b c d e f g h : T) (x y : Row) (R : Heap) (k : Nat)
theorem xlA : A0s true 4 ((0, .cells 25 [.t a, .t b, .t c, .t d]) :: R) (.ptr 0 0) = some (.t (.ag [a, b, c, d])) := rfl
theorem xlB : A0s true 4 ((2, x) :: (1, y) :: (0, .cells 25 [.t a, .t b, .t c, .t d]) :: R) (.ptr 0 0) = some (.t (.ag [a, b, c, d])) := rfl
theorem xlC : A0s false 1 ((2, x) :: (1, y) :: (0, .cells 25 [.t a, .t b, .t c, .t d]) :: R) (.ptr 0 0) = some (.t a) := rfl
theorem xlD : A0s false 1 ((2, x) :: (1, y) :: (0, .cells 25 [.t a, .t b, .t c, .t d]) :: R) (.ptr 0 3) = some (.t d) := rfl
theorem xi1 : A4v 4 (.t (.sl 2 [a, b, c, d, e, f, g, h])) (.t (iv 1)) = some (.t (.pt [e, f, g, h])) := rfl
theorem xb2 (s r : ByteArray) : A6b 9 1 [.string ⟨#[]⟩] 2 [(0, .t (sv s)), (1, .t (sv r))] k = some (.row k 0 2 1, .cells 9 [.t (sv s), .t (sv r)]) := rfl
theorem xl2 (l : List T) : A2f (.t (.sl 2 l)) = some (.t (iv 2)) := rfl
theorem xln : A2f (.t nilS) = some (.t (iv 0)) := rfl
end
theorem bdX {Φ : A0u} {H : Heap} {nx : Nat} : A0d Φ H nx (.build [(0, 1), (1, 1), (2, 1), (3, 1)] [.int .i64 0, .string ⟨#[]⟩, .slice none 0 0, .slice none 0 0] []) [] = some (.t (.ag [iv 0, sv ⟨#[]⟩, nilS, nilS]), H, nx) := rfl
theorem D8p : A1k Tryz.prog (G q) 13 [] (· = bv true) := by
 have C : Ctx Tryz.prog (G q) (orc [(20, B0a), (22, D0l), (24, D0m), (26, E1c), (14, D0c)]) := (A0z.cons E2e (.cons E7j (.cons E7k (.cons E6t (.cons D8m .nil))))).ctx mixed
 have p1 : B0a [.v (.string ⟨#[91, 70, 46, 71, 32, 97, 93, 32, 38, 32, 60, 98, 32, 124, 32, 35, 120, 62]⟩)] = some (.tu [dT exD, iv 0]) := by
  rw [B3a (s := bs exS) (by decide)]
  show some (parT (parS exS)) = _
  rw [E7m]; rfl
 have p2 : B0a [.v (.string ⟨#[]⟩)] = some (.tu [dT zDs, iv 9]) := (B3a (s := bs []) (by decide)).trans (by kernel_rfl)
 have p3 : B0a [.v (.string ⟨#[60, 124, 32, 97, 62]⟩)] = some (.tu [dT zDs, iv 8]) := (B3a (s := bs [60, 124, 32, 97, 62]) (by decide)).trans (by kernel_rfl)
 have p4 : D0l [dT exD] = some (.tu [.v (.string ⟨#[91, 70, 46, 71, 32, 97, 93, 32, 38, 32, 60, 98, 32, 124, 32, 35, 120, 62]⟩), iv 0]) := by
  rw [dT, D8n (IsD.enc exD) C2n.sized fun h => C2n.wr (by decide) h]
  unfold priT
  rw [if_neg (by rw [D0n]; decide), if_neg (by rw [E7l]; decide), E7l]
 have p5 : D0m [dT exD] = some (.tu [.sl 2 [C5w [97], C5w [98]], nilS]) := by
  rw [dT, D8o (IsD.enc exD) C2n.sized (by decide), E1r]
 have p6 : E1c [.sl 2 [C5w [97], C5w [98]], .sl 2 [C5w [97], C5w [98]]] = some (bv true) := D0b (l := [bs [97], bs [98]]) (.inr rfl) (.inr rfl) (by decide)
 have p7 : D0c [.ag [iv 0, sv ⟨#[]⟩, nilS, nilS]] = some (iv 14) := by
  have hs : Small zDs := .mk 0 ⟨#[]⟩ [] [] (by decide) (by decide) (fun s h => by cases h) (by decide) (fun k h => by cases h)
  have hd : Abs.IsD zDs [iv 0, sv ⟨#[]⟩, nilS, nilS] := by
   have := IsD.enc zDs
   rw [zDs, A4p] at this
   exact this
  exact (C5i hd hs.sized).trans (by kernel_rfl)
 obtain ⟨a, b, c, x, y, z, hd⟩ : ∃ a b c x y z, dT exD = .ag [iv 4, sv ⟨#[]⟩, nilS, .sl 2 [iv 5, a, b, c, iv 7, x, y, z]] := ⟨_, _, _, _, _, _, rfl⟩
 have hz : dT zDs = .ag [iv 0, sv ⟨#[]⟩, nilS, nilS] := by rw [zDs, dT, A4p]; rfl
 rw [hd] at p1 p4 p5
 rw [hz] at p2 p3
 have st0 : ∀ (n : Nat) (R : Heap) (a b c d : T), A1b 4 ((n, zD) :: R) (.ptr n 0) (.t (.ag [a, b, c, d])) = some ((n, .cells 25 [.t a, .t b, .t c, .t d]) :: R) := fun n R a b c d => by
  simp only [A1b, A2r, look_cons, if_true, zD]
  simp [upd, A6e]
 refine B2k.call rfl ?_
 refine A0c C ?_
 simp -implicitDefEqProofs [A7i, p1, p2, p3, p4, p5, p6, p7, st0, xlA, xlB, xlC, xlD, xi1, xb2, xl2, xln, lh1, -evalK_build, bdX]
def gEx : List T -> Option T
 | [] => some (bv true)
 | _ => none
theorem hEx : GOK Tryz.prog (G q) 13 gEx := fun args r hr => by
 unfold gEx at hr
 split at hr
 ·injection hr with hr; subst hr; exact D8p
 ·cases hr
theorem ge0 : gEx [] = some (bv true) := rfl
end Go.Proofs.YtjkkgbdoeaihmaaGreatDoor
