/-
 Auxiliary facts. No statement of the program stands here.
-/
import Derived.Test.YtjkkgbdoeaihmaaGreatDoorUBQ34
import Derived.Test.YtjkkgbdoeaihmaaGreatDoorUBQ36
import Derived.Test.YtjkkgbdoeaihmaaGreatDoorUBQ39
namespace Go.Proofs.YtjkkgbdoeaihmaaGreatDoor
set_option linter.unusedSimpArgs false
set_option linter.unusedVariables false
open Go Go.Abs
variable {q : Gl}
noncomputable def gNames (ts : List T) : Option T := g1 tD (fun d => open Classical in if Sized d /\ nodesD d <= 300000 then some (namT d) else none) ts
theorem gNames_eq {c : List T} {d : Ds} (h : Abs.IsD d c) (hs : Sized d) (hn : nodesD d <= 300000) : gNames [.ag c] = some (namT d) := by
 show g1 _ _ _ = _
 rw [g1_eq (τ := tD) (x := d) ⟨c, rfl, h⟩, if_pos ⟨hs, hn⟩]
theorem hNames : GOK Tryz.prog (G q) 24 gNames := g1_ok fun a x r ha hr => by
 split at hr
 ·rename_i hc
  injection hr with hr; subst hr
  obtain ⟨c, rfl, hd⟩ := ha
  exact names_call hd hc.1 hc.2
 ·cases hr
abbrev sZ (l : List UInt8) : T := .v (.string ⟨l.toArray⟩)
abbrev exS : List UInt8 := [91, 70, 46, 71, 32, 97, 93, 32, 38, 32, 60, 98, 32, 124, 32, 35, 120, 62]
def exD : Ds := .mk 4 ⟨#[]⟩ [] [.mk 5 ⟨#[]⟩ [bs [70], bs [71]] [.mk 1 (bs [97]) [] []], .mk 7 ⟨#[]⟩ [] [.mk 1 (bs [98]) [] [], .mk 3 (bs [120]) [] []]]
theorem ex_check : checkE exD 1 = 0 := by decide +kernel
theorem ex_wr : wrD exD = exS := by decide +kernel
theorem ex_par : parS exS = .ok exD := by kernel_rfl
theorem ex_small : Small exD := check_small exD 1 ex_check
theorem ex_names : namT exD = .tu [.sl 2 [sZ [97], sZ [98]], nilS] := by
 have e1 : nmD 1 exD [] = [bs [97], bs [98]] := by
  obtain ⟨h1, h2⟩ := nmD_law 1 exD (acc := []) List.Pairwise.nil
  refine asc_uniq h1 (by unfold Asc lb bs; decide) fun x => ?_
  rw [h2]
  simp [colD, colL, exD]
 have e2 : nmD 2 exD [] = [] := by
  obtain ⟨h1, h2⟩ := nmD_law 2 exD (acc := []) List.Pairwise.nil
  refine asc_uniq h1 List.Pairwise.nil fun x => ?_
  rw [h2]
  simp [colD, colL, exD]
 unfold namT
 rw [e1, e2]
 rfl
section
variable (a b c d e f g h : T) (x y : Row) (R : Heap) (k : Nat)
theorem xlA : loadM true 4 ((0, .cells 25 [.t a, .t b, .t c, .t d]) :: R) (.ptr 0 0) = some (.t (.ag [a, b, c, d])) := rfl
theorem xlB : loadM true 4 ((2, x) :: (1, y) :: (0, .cells 25 [.t a, .t b, .t c, .t d]) :: R) (.ptr 0 0) = some (.t (.ag [a, b, c, d])) := rfl
theorem xlC : loadM false 1 ((2, x) :: (1, y) :: (0, .cells 25 [.t a, .t b, .t c, .t d]) :: R) (.ptr 0 0) = some (.t a) := rfl
theorem xlD : loadM false 1 ((2, x) :: (1, y) :: (0, .cells 25 [.t a, .t b, .t c, .t d]) :: R) (.ptr 0 3) = some (.t d) := rfl
theorem xi1 : iaddrM 4 (.t (.sl 2 [a, b, c, d, e, f, g, h])) (.t (iv 1)) = some (.t (.pt [e, f, g, h])) := rfl
theorem xb2 (s r : ByteArray) : bsliceM 9 1 [.string ⟨#[]⟩] 2 [(0, .t (sv s)), (1, .t (sv r))] k = some (.row k 0 2 1, .cells 9 [.t (sv s), .t (sv r)]) := rfl
theorem xl2 (l : List T) : lenslM (.t (.sl 2 l)) = some (.t (iv 2)) := rfl
theorem xln : lenslM (.t nilS) = some (.t (iv 0)) := rfl
end
theorem bdX {Φ : Oracle} {H : Heap} {nx : Nat} : evalK Φ H nx (.build [(0, 1), (1, 1), (2, 1), (3, 1)] [.int .i64 0, .string ⟨#[]⟩, .slice none 0 0, .slice none 0 0] []) [] = some (.t (.ag [iv 0, sv ⟨#[]⟩, nilS, nilS]), H, nx) := rfl
theorem example19 : CallT Tryz.prog (G q) 13 [] (· = bv true) := by
 have C : Ctx Tryz.prog (G q) (orc [(20, gParse), (22, gPrint), (24, gNames), (26, gSame), (14, gCheck)]) := (TblOK.cons hParse (.cons hPrint (.cons hNames (.cons hSame (.cons hDCheck .nil))))).ctx mixed
 have p1 : gParse [.v (.string ⟨#[91, 70, 46, 71, 32, 97, 93, 32, 38, 32, 60, 98, 32, 124, 32, 35, 120, 62]⟩)] = some (.tu [dT exD, iv 0]) := by
  rw [gParse_eq (s := bs exS) (by decide)]
  show some (parT (parS exS)) = _
  rw [ex_par]; rfl
 have p2 : gParse [.v (.string ⟨#[]⟩)] = some (.tu [dT zDs, iv 9]) := (gParse_eq (s := bs []) (by decide)).trans (by kernel_rfl)
 have p3 : gParse [.v (.string ⟨#[60, 124, 32, 97, 62]⟩)] = some (.tu [dT zDs, iv 8]) := (gParse_eq (s := bs [60, 124, 32, 97, 62]) (by decide)).trans (by kernel_rfl)
 have p4 : gPrint [dT exD] = some (.tu [.v (.string ⟨#[91, 70, 46, 71, 32, 97, 93, 32, 38, 32, 60, 98, 32, 124, 32, 35, 120, 62]⟩), iv 0]) := by
  rw [dT, gPrint_eq (IsD.enc exD) ex_small.sized fun h => ex_small.wr (by decide) h]
  unfold priT
  rw [if_neg (by rw [ex_check]; decide), if_neg (by rw [ex_wr]; decide), ex_wr]
 have p5 : gNames [dT exD] = some (.tu [.sl 2 [sZ [97], sZ [98]], nilS]) := by
  rw [dT, gNames_eq (IsD.enc exD) ex_small.sized (by decide), ex_names]
 have p6 : gSame [.sl 2 [sZ [97], sZ [98]], .sl 2 [sZ [97], sZ [98]]] = some (bv true) := gSame_eq (l := [bs [97], bs [98]]) (.inr rfl) (.inr rfl) (by decide)
 have p7 : gCheck [.ag [iv 0, sv ⟨#[]⟩, nilS, nilS]] = some (iv 14) := by
  have hs : Small zDs := .mk 0 ⟨#[]⟩ [] [] (by decide) (by decide) (fun s h => by cases h) (by decide) (fun k h => by cases h)
  have hd : Abs.IsD zDs [iv 0, sv ⟨#[]⟩, nilS, nilS] := by
   have := IsD.enc zDs
   rw [zDs, encD_eq] at this
   exact this
  exact (gCheck_eq hd hs.sized).trans (by kernel_rfl)
 obtain ⟨a, b, c, x, y, z, hd⟩ : ∃ a b c x y z, dT exD = .ag [iv 4, sv ⟨#[]⟩, nilS, .sl 2 [iv 5, a, b, c, iv 7, x, y, z]] := ⟨_, _, _, _, _, _, rfl⟩
 have hz : dT zDs = .ag [iv 0, sv ⟨#[]⟩, nilS, nilS] := by rw [zDs, dT, encD_eq]; rfl
 rw [hd] at p1 p4 p5
 rw [hz] at p2 p3
 have st0 : ∀ (n : Nat) (R : Heap) (a b c d : T), storeM 4 ((n, zD) :: R) (.ptr n 0) (.t (.ag [a, b, c, d])) = some ((n, .cells 25 [.t a, .t b, .t c, .t d]) :: R) := fun n R a b c d => by
  simp only [storeM, cellsP, look_cons, if_true, zD]
  simp [upd, splice]
 refine k_w19_exampleHolds.call rfl ?_
 refine mc_runs C ?_
 simp -implicitDefEqProofs [M_w19_exampleHolds, p1, p2, p3, p4, p5, p6, p7, st0, xlA, xlB, xlC, xlD, xi1, xb2, xl2, xln, lh1, -evalK_build, bdX]
def gEx : List T -> Option T
 | [] => some (bv true)
 | _ => none
theorem hEx : GOK Tryz.prog (G q) 13 gEx := fun args r hr => by
 unfold gEx at hr
 split at hr
 ·injection hr with hr; subst hr; exact example19
 ·cases hr
theorem ge0 : gEx [] = some (bv true) := rfl
end Go.Proofs.YtjkkgbdoeaihmaaGreatDoor
