/-
 Auxiliary facts. No statement of the program stands here.
-/
import Derived.Test.YtjkkgbdoeaihmaaGreatDoorUD3Q35
import Derived.Test.YtjkkgbdoeaihmaaGreatDoorUD3Q31
namespace Go.Proofs.YtjkkgbdoeaihmaaGreatDoor
set_option linter.unusedSimpArgs false
set_option linter.unusedVariables false
open Go Go.Abs
variable {q : Gl}
structure Kw where
 j : Nat
 p : PV
 A : List UInt8
def SKw (tk : T) (sep : List UInt8) (n : Nat) (a : Kw) : A0b := ⟨[(9, .t (iv (a.j : Int))), (8, .t (iv (n : Int))), (7, .t tk), (1, .t (sv (bs sep))), (2, .ptr 2 0)], [(0, bldR a.p 3 a.A)] ++ (rowH eB tyU 3 a.A ++ [(2, boxB)]), 4, 23⟩
structure OkKw (kids : List Ds) (sep m : List UInt8) (p : PV) (a : Kw) : Prop where
 le : a.j <= kids.length
 hp : a.p = pNil \/ a.p = .ptr 0 0
 h0 : a.p = pNil -> a.j = 0 /\ p = pNil
 eq : a.A ++ B3b sep sep kids a.j = m
theorem D8i {H : Heap} (h : Abs.look H 2 = some boxB) : A0s false 1 H (.ptr 2 0) = some (.ptr 0 0) := by
 simp only [A0s, h]; rfl
theorem E2o {H : Heap} {b ty : Nat} {a b0 c d : T} (h : Abs.look H b = some (.cells ty [.t a, .t b0, .t c, .t d])) : A0s true 4 H (.ptr b 0) = some (.t (.ag [a, b0, c, d])) := by
 simp only [A0s, h]; rfl
theorem E7d (R : Heap) (a b0 c d : T) : A1b 4 ((4, zD) :: R) (.ptr 4 0) (.t (.ag [a, b0, c, d])) = some ((4, .cells 25 [.t a, .t b0, .t c, .t d]) :: R) := rfl
theorem E4r {kids : List Ds} (hw : ∀ k ∈ kids, WrOK q k /\ Wr k) (hn : kids.length <= 1000) {tk : T} (hk : IsK tk kids) (sep : List UInt8) {p : PV} {l : List UInt8} (hp : p = pNil \/ p = .ptr 0 0) (hkne : p = pNil -> kids ≠ []) (hsep : sep ≠ [] \/ kids.length <= 1)
  (hl : l.length + (wrL sep sep kids).length <= 1000000000) :
  A1d Tryz.prog (G q) 63 [.t tk, .t (sv (bs sep)), .ptr 2 0] ([(0, bldR p 1 l)] ++ (rowH eB tyU 1 l ++ [(2, boxB)])) 3 (.t (.tu [])) ([(0, bldR (.ptr 0 0) 3 (l ++ wrL sep sep kids))] ++ (rowH eB tyU 3 (l ++ wrL sep sep kids) ++ [(2, boxB)])) 4 := by
 obtain ⟨m, hm⟩ : ∃ m, m = l ++ wrL sep sep kids := ⟨_, rfl⟩
 rw [<- hm]
 have hml : m.length <= 1000000000 := by rw [hm, List.length_append]; exact hl
 have hlk : A2f (.t tk) = some (.t (iv (kids.length : Int))) := hk.len
 refine D8g.callP rfl ?_
 unfold A7v
 refine A0a A2e ?_
 simp -implicitDefEqProofs [hlk]
 refine A0w ?_
 refine A1l (SKw tk sep kids.length) (fun a => kids.length - a.j) (OkKw kids sep m p) ⟨0, p, l⟩ (fun _ => rfl) ⟨Nat.zero_le _, hp, fun h => ⟨rfl, h⟩, by rw [D7j, hm]⟩ ?_ rfl ?_
 ·refine C2m (k := 1) rfl hp ((A0n.head eB tyU [(2, boxB)] 1 l).cons (by omega)) (by omega) (by omega) (by omega) (by omega) ?_ ?_
  ·intro x hx
   simp only [List.mem_singleton] at hx
   subst hx
   refine ⟨?_, by show 2 < 4; omega, by show 2 ≠ 3; omega, by show 2 ≠ 1; omega, rfl, by show 2 ≠ 0; omega⟩
   cases l <;> rfl
  ·simp -implicitDefEqProofs [ren, under]
 rintro ⟨j, pj, A⟩ ⟨hj, hpj, hp0, heq⟩
 simp only at hj hpj hp0 heq
 obtain ⟨H0, hH0⟩ : ∃ H0, H0 = [(0, bldR pj 3 A)] ++ (rowH eB tyU 3 A ++ [(2, boxB)]) := ⟨_, rfl⟩
 have l00 : Abs.look H0 0 = some (bldR pj 3 A) := by rw [hH0]; rfl
 have l02 : Abs.look H0 2 = some boxB := by rw [hH0]; cases A <;> rfl
 have r0 : A0n eB tyU H0 3 A := by rw [hH0]; exact (A0n.head eB tyU [(2, boxB)] 3 A).cons (by omega)
 have hS : SKw tk sep kids.length ⟨j, pj, A⟩ = ⟨[(9, .t (iv (j : Int))), (8, .t (iv (kids.length : Int))), (7, .t tk), (1, .t (sv (bs sep))), (2, .ptr 2 0)], H0, 4, 23⟩ := by rw [hH0]; rfl
 rw [hS]
 by_cases hlt : j < kids.length
 ·obtain ⟨x, hx⟩ : ∃ x, kids[j]? = some x := ⟨_, List.getElem?_eq_getElem hlt⟩
  obtain ⟨kp, ci, h1, h2, h3⟩ := C0i hk hx
  obtain ⟨hwx, hwr⟩ := hw x (List.mem_of_getElem? hx)
  have hlt' : (j : Int) < (kids.length : Int) := by omega
  obtain ⟨j1, hj1⟩ : ∃ j1, j1 = j + 1 := ⟨_, rfl⟩
  have ej : IntKind.i64.wrap ((j : Int) + 1) = (j1 : Int) := A1a (by omega) (by omega)
  have hlen : (A ++ B3b sep sep kids j).length <= 1000000000 := by rw [heq]; exact hml
  rw [D7k sep sep kids hx] at heq hlen
  rw [<- hj1] at heq hlen
  simp only [List.length_append] at hlen
  obtain ⟨ca, cb, cc, cd, rfl⟩ : ∃ ca cb cc cd, ci = [ca, cb, cc, cd] := by
   cases x with
   | mk op name path ks =>
    obtain ⟨tp', tk', rfl, _, _⟩ := h3.parts
    exact ⟨_, _, _, _, rfl⟩
  obtain ⟨H1, hH1⟩ : ∃ H1, H1 = ((4, .cells 25 [.t ca, .t cb, .t cc, .t cd]) :: H0 : Heap) := ⟨_, rfl⟩
  have st := E7d H0 ca cb cc cd
  rw [<- hH1] at st
  have l10 : Abs.look H1 0 = some (bldR pj 3 A) := by rw [hH1, look_cons, if_neg (by omega)]; exact l00
  have l12 : Abs.look H1 2 = some boxB := by rw [hH1, look_cons, if_neg (by omega)]; exact l02
  have r1 : A0n eB tyU H1 3 A := by rw [hH1]; exact r0.cons (by omega)
  have l14 : Abs.look H1 4 = some (.cells 25 [.t ca, .t cb, .t cc, .t cd]) := by rw [hH1, look_cons, if_pos rfl]
  have b1 := D8i l12
  have g1 := E2o l14
  unfold E4j at heq hlen
  by_cases h0 : j = 0
  ·rw [if_pos h0] at heq hlen
   have h0' : ¬ (0 : Int) < (j : Int) := by omega
   have h0n : ¬ 0 < j := by omega
   obtain ⟨m1, hm1⟩ : ∃ m1, m1 = A ++ wrD x := ⟨_, rfl⟩
   rw [List.nil_append, <- List.append_assoc, <- hm1] at heq
   obtain ⟨H2, hH2⟩ : ∃ H2, H2 = wsH H1 0 3 5 A m1 := ⟨_, rfl⟩
   have c37 := hwx.at_ hwr h3 (H := H1) (NX := 5) (b := 0) (g := 3) (p := pj) (l := A) (by omega) l10 hpj r1 (by omega) (by omega) (by omega)
   rw [<- hm1, <- hH2] at c37
   obtain ⟨t37, ht37⟩ : ∃ t, t = hOne [.ptr 0 0, .t (.ag [ca, cb, cc, cd])] H1 5 (.t (.tu []), H2, 6) := ⟨_, rfl⟩
   have C : Ctx Tryz.prog (G q) (orh [] [(37, t37)]) := A0z.nil.ctxH (A1r.cons (by rw [ht37]; exact A2q c37 (by rw [hH2]; exact B0i (by omega))) .nil) mixed
   have e37 : t37 [.ptr 0 0, .t (.ag [ca, cb, cc, cd])] H1 5 = some (.t (.tu []), H2, 6) := by rw [ht37]; exact A2d _ _ _ _
   refine A0c C ?_
   simp -implicitDefEqProofs [hlt, hlt', h0', h0n, h1, h2, st, b1, g1, e37, ej]
   have l20 : Abs.look H2 0 = some (bldR (.ptr 0 0) 5 m1) := by rw [hH2]; exact C5u l10 (by omega) (.inr (by omega))
   have l22 : Abs.look H2 2 = some boxB := by rw [hH2, A9b (by omega) (.inr (by omega)) (by omega)]; exact l12
   have r2 : A0n eB tyU H2 5 m1 := by rw [hH2]; exact C5v
   refine Abs.Next.mk (⟨j1, .ptr 0 0, m1⟩ : Kw) ⟨⟨by show j1 <= _; omega, .inr rfl, fun h => (by cases h), heq⟩, by show kids.length - j1 < kids.length - j; omega⟩ ?_
   refine C2m (k := 5) l20 (.inr rfl) r2 (by omega) (by omega) (by omega) (by omega) ?_ ?_
   ·intro y hy
    simp only [List.mem_singleton] at hy
    subst hy
    exact ⟨l22, by show 2 < 4; omega, by show 2 ≠ 3; omega, by show 2 ≠ 5; omega, rfl, by show 2 ≠ 0; omega⟩
   ·simp -implicitDefEqProofs [ren, under]
  ·rw [if_neg h0, show (if j + 1 = kids.length then sep else sep) = sep by split <;> rfl] at heq hlen
   have h0' : (0 : Int) < (j : Int) := by omega
   have h0n : 0 < j := by omega
   have hse : sep ≠ [] := hsep.resolve_right (by omega)
   have hpp : pj = .ptr 0 0 := hpj.resolve_left (fun h => h0 (hp0 h).1)
   subst hpp
   obtain ⟨m0, hm0⟩ : ∃ m0, m0 = A ++ sep := ⟨_, rfl⟩
   obtain ⟨m1, hm1⟩ : ∃ m1, m1 = m0 ++ wrD x := ⟨_, rfl⟩
   have hm0l : m0.length = A.length + sep.length := by rw [hm0, List.length_append]
   rw [<- List.append_assoc, <- hm0, <- List.append_assoc, <- hm1] at heq
   obtain ⟨H2, hH2⟩ : ∃ H2, H2 = wsH H1 0 3 5 A m0 := ⟨_, rfl⟩
   have l20 : Abs.look H2 0 = some (bldR (.ptr 0 0) 5 m0) := by rw [hH2]; exact C5u l10 (by omega) (.inr (by omega))
   have l22 : Abs.look H2 2 = some boxB := by rw [hH2, A9b (by omega) (.inr (by omega)) (by omega)]; exact l12
   have l24 : Abs.look H2 4 = some (.cells 25 [.t ca, .t cb, .t cc, .t cd]) := by rw [hH2, A9b (by omega) (.inr (by omega)) (by omega)]; exact l14
   have r2 : A0n eB tyU H2 5 m0 := by rw [hH2]; exact C5v
   have b2 := D8i l22
   have g2 := E2o l24
   obtain ⟨H3, hH3⟩ : ∃ H3, H3 = wsH H2 0 5 6 m0 m1 := ⟨_, rfl⟩
   have l30 : Abs.look H3 0 = some (bldR (.ptr 0 0) 6 m1) := by rw [hH3]; exact C5u l20 (by omega) (.inr (by omega))
   have l32 : Abs.look H3 2 = some boxB := by rw [hH3, A9b (by omega) (.inr (by omega)) (by omega)]; exact l22
   have r3 : A0n eB tyU H3 6 m1 := by rw [hH3]; exact C5v
   have c64 := D8f (q := q) (nx := 5) l10 (.inr rfl) r1 hse (by omega)
   rw [<- hm0, <- hH2] at c64
   have c37 := hwx.at_ hwr h3 (H := H2) (NX := 6) (b := 0) (g := 5) (p := .ptr 0 0) (l := m0) (by omega) l20 (.inr rfl) r2 (by omega) (by omega) (by omega)
   rw [<- hm1, <- hH3] at c37
   obtain ⟨t64, ht64⟩ : ∃ t, t = hOne [.ptr 0 0, .t (sv (bs sep))] H1 5 (.t (.tu [iv (sep.length : Int), .v .nilIface]), H2, 6) := ⟨_, rfl⟩
   obtain ⟨t37, ht37⟩ : ∃ t, t = hOne [.ptr 0 0, .t (.ag [ca, cb, cc, cd])] H2 6 (.t (.tu []), H3, 7) := ⟨_, rfl⟩
   have C : Ctx Tryz.prog (G q) (orh [] [(64, t64), (37, t37)]) := A0z.nil.ctxH (A1r.cons (by rw [ht64]; exact A2q c64 (by rw [hH2]; exact B0i (by omega))) (A1r.cons (by rw [ht37]; exact A2q c37 (by rw [hH3]; exact B0i (by omega))) .nil)) mixed
   have e64 : t64 [.ptr 0 0, .t (sv (bs sep))] H1 5 = some (.t (.tu [iv (sep.length : Int), .v .nilIface]), H2, 6) := by rw [ht64]; exact A2d _ _ _ _
   have e37 : t37 [.ptr 0 0, .t (.ag [ca, cb, cc, cd])] H2 6 = some (.t (.tu []), H3, 7) := by rw [ht37]; exact A2d _ _ _ _
   refine A0c C ?_
   simp -implicitDefEqProofs [hlt, hlt', h0', h0n, h1, h2, st, b1, e64, b2, g2, e37, ej]
   refine Abs.Next.mk (⟨j1, .ptr 0 0, m1⟩ : Kw) ⟨⟨by show j1 <= _; omega, .inr rfl, fun h => (by cases h), heq⟩, by show kids.length - j1 < kids.length - j; omega⟩ ?_
   refine C2m (k := 6) l30 (.inr rfl) r3 (by omega) (by omega) (by omega) (by omega) ?_ ?_
   ·intro y hy
    simp only [List.mem_singleton] at hy
    subst hy
    exact ⟨l32, by show 2 < 4; omega, by show 2 ≠ 3; omega, by show 2 ≠ 6; omega, rfl, by show 2 ≠ 0; omega⟩
   ·simp -implicitDefEqProofs [ren, under]
 ·have hje : j = kids.length := by omega
  have hlt' : ¬ (j : Int) < (kids.length : Int) := by omega
  rw [hje, E1d, List.append_nil] at heq
  subst heq
  have hpp : pj = .ptr 0 0 := by
   rcases hpj with h | h
   ·obtain ⟨h1, h2⟩ := hp0 h
    exact absurd (List.eq_nil_of_length_eq_zero (by omega)) (hkne h2)
   ·exact h
  subst hpp
  refine A0c A2e ?_
  simp -implicitDefEqProofs [hlt, hlt']
  exact ⟨.inl rfl, ⟨[], H0, 4, 23⟩, [], A1i (by simp -implicitDefEqProofs), rfl, rfl, hH0, rfl⟩
theorem IsDs.length : ∀ {l : List Ds} {c : List T}, Abs.IsDs l c -> c.length = l.length * 4
 | [], c, h => by simp only [Abs.IsDs] at h; subst h; rfl
 | d :: l, c, h => by
  simp only [Abs.IsDs] at h
  obtain ⟨c1, c2, rfl, h1, h2⟩ := h
  have e1 : c1.length = 4 := h1.len
  rw [List.length_append, e1, IsDs.length h2, List.length_cons]; omega
theorem IsDs.cut : ∀ (n : Nat) {l : List Ds} {c : List T}, Abs.IsDs l c -> Abs.IsDs (l.take n) (c.take (n * 4)) /\ Abs.IsDs (l.drop n) (c.drop (n * 4))
 | 0, l, c, h => by simpa [Abs.IsDs] using h
 | n + 1, [], c, h => by simp only [Abs.IsDs] at h; subst h; simp [Abs.IsDs]
 | n + 1, d :: l, c, h => by
  simp only [Abs.IsDs] at h
  obtain ⟨c1, c2, rfl, h1, h2⟩ := h
  have e1 : c1.length = 4 := h1.len
  obtain ⟨i1, i2⟩ := IsDs.cut n h2
  rw [show (n + 1) * 4 = c1.length + n * 4 by omega, List.take_length_add_append, List.drop_length_add_append, List.take_succ_cons, List.drop_succ_cons]
  exact ⟨by simp only [Abs.IsDs]; exact ⟨c1, _, rfl, h1, i1⟩, i2⟩
theorem IsK.cut {t : T} {l : List Ds} (h : IsK t l) (hl : l ≠ []) {n : Nat} (hn : n <= l.length) :
  ∃ t1 t2, A7b 4 (.t t) none (some (.t (iv (n : Int)))) = some (.t t1) /\ A7b 4 (.t t) (some (.t (iv (n : Int)))) none = some (.t t2) /\ IsK t1 (l.take n) /\ IsK t2 (l.drop n) := by
 rcases h with ⟨_, h⟩ | ⟨c, rfl, h⟩
 ·exact absurd h hl
 ·obtain ⟨i1, i2⟩ := IsDs.cut n h
  have hcl := IsDs.length h
  refine ⟨.sl n (c.take (n * 4)), .sl (l.length - n) (c.drop (n * 4)), ?_, ?_, .inr ⟨_, by rw [List.length_take, Nat.min_eq_left hn], i1⟩, .inr ⟨_, by rw [List.length_drop], i2⟩⟩
  ·have e : boundV (some (PV.t (iv (n : Int)))) l.length = some n := by simp [boundV]
   have e0 : boundV none 0 = some 0 := rfl
   simp only [A7b, e, e0]
   rw [if_pos ⟨Nat.zero_le _, hn⟩]
   simp
  ·have e : boundV (some (PV.t (iv (n : Int)))) 0 = some n := by simp [boundV]
   have e0 : boundV none l.length = some l.length := rfl
   simp only [A7b, e, e0]
   rw [if_pos ⟨hn, Nat.le_refl _⟩, List.take_of_length_le (by rw [List.length_drop, hcl, <- Nat.sub_mul]; exact Nat.le_refl _)]
theorem D8j (sep last : List UInt8) : ∀ {kids : List Ds}, 2 <= kids.length -> wrL sep last kids = wrL sep sep (kids.take (kids.length - 1)) ++ (last ++ wrL [] [] (kids.drop (kids.length - 1)))
 | [], h => by simp at h
 | [_], h => by simp at h
 | [a, b], _ => by simp [wrL, B7q]
 | a :: b :: c :: r, _ => by
  have ih := D8j sep last (kids := b :: c :: r) (by simp)
  have e : (a :: b :: c :: r).length - 1 = (b :: c :: r).length - 1 + 1 := by simp
  rw [e, List.take_succ_cons, List.drop_succ_cons, wrL, ih, wrL]
  have e2 : (b :: c :: r).length - 1 = (c :: r).length - 1 + 1 := by simp
  rw [show B7q sep last (b :: c :: r) = sep from rfl, e2, List.take_succ_cons]
  have : B7q sep sep (b :: List.take ((c :: r).length - 1) (c :: r)) = sep := by
   cases List.take ((c :: r).length - 1) (c :: r) <;> rfl
  rw [this]
  simp
theorem E4s {kids : List Ds} (hw : ∀ k ∈ kids, WrOK q k /\ Wr k) (hn : kids.length <= 1000) {tk : T} (hk : IsK tk kids) (sep : List UInt8) (hsep : sep ≠ [] \/ kids.length <= 1)
  {H : Heap} {NX g : Nat} {p : PV} {l : List UInt8} (hkne : p = pNil -> kids ≠ []) (hm : l ++ wrL sep sep kids ≠ []) (hl : l.length + (wrL sep sep kids).length <= 1000000000) (h0 : Abs.look H 0 = some (bldR p g l)) (hp : p = pNil \/ p = .ptr 0 0) (h2 : Abs.look H 2 = some boxB) (hg : A0n eB tyU H g l) (hgn : g < NX) (hg0 : g ≠ 0) (hg2 : g ≠ 2) (hnx : 2 < NX) :
  A1d Tryz.prog (G q) 63 [.t tk, .t (sv (bs sep)), .ptr 2 0] H NX (.t (.tu [])) (wsH H 0 g NX l (l ++ wrL sep sep kids)) (NX + 1) := by
 have hpu : under 3 p = true := by rcases hp with rfl | rfl <;> rfl
 have hpr : ren (fun x => if x = 1 then g else x) p = p := by rcases hp with rfl | rfl <;> rfl
 have := W.lift (E4r hw hn hk sep hp hkne hsep hl) (H := H) (NX := NX) (fun x => if x = 1 then g else x) (fun x hx => by show (if x = 1 then g else x) < NX; split <;> omega)
  (fun x y hx hy e => by
   have e : (if x = 1 then g else x) = (if y = 1 then g else y) := e
   split at e <;> split at e <;> omega) (by omega) hm hpu (by rw [hpr]; exact h0) hg (fun x hx => by
   simp only [List.mem_singleton] at hx
   subst hx
   exact ⟨h2, by show 2 <= 2; omega, by show 2 < 3; omega, rfl⟩) (fun x hx => by
   simp only [List.mem_singleton] at hx
   subst hx
   exact ⟨rfl, rfl, rfl⟩) rfl
 exact this
theorem E2p {H : Heap} {nx b g : Nat} {p : PV} {l s : List UInt8} (h : Abs.look H b = some (bldR p g l)) (hp : p = .t (.v (.pointer none)) \/ p = .ptr b 0) (hg : A0n eB tyU H g l) (hs : s ≠ []) (hlen : l.length + s.length <= 140737488355328) (hb : b < nx) :
  HOK Tryz.prog (G q) 64 (hOne [.ptr b 0, .t (sv (bs s))] H nx (.t (.tu [iv (s.length : Int), .v .nilIface]), wsH H b g nx l (l ++ s), nx + 1)) := A2q (D8f h hp hg hs hlen) (B0i hb)
theorem E1o {kids : List Ds} (hw : ∀ k ∈ kids, WrOK q k /\ Wr k) (hn : kids.length <= 1000) {tk : T} (hk : IsK tk kids) (sep : List UInt8) (hsep : sep ≠ [] \/ kids.length <= 1)
  {H : Heap} {NX g : Nat} {p : PV} {l : List UInt8} (hkne : p = pNil -> kids ≠ []) (hm : l ++ wrL sep sep kids ≠ []) (hl : l.length + (wrL sep sep kids).length <= 1000000000) (h0 : Abs.look H 0 = some (bldR p g l)) (hp : p = pNil \/ p = .ptr 0 0) (h2 : Abs.look H 2 = some boxB) (hg : A0n eB tyU H g l) (hgn : g < NX) (hg0 : g ≠ 0) (hg2 : g ≠ 2) (hnx : 2 < NX) :
  HOK Tryz.prog (G q) 63 (hOne [.t tk, .t (sv (bs sep)), .ptr 2 0] H NX (.t (.tu []), wsH H 0 g NX l (l ++ wrL sep sep kids), NX + 1)) := A2q (E4s hw hn hk sep hsep hkne hm hl h0 hp h2 hg hgn hg0 hg2 hnx) (B0i (by omega))
structure WS (H : Heap) (g : Nat) (p : PV) (l : List UInt8) (op : Int) (name : ByteArray) (tp tk : T) : Prop where
 r0 : Abs.look H 0 = some (bldR p g l)
 r2 : Abs.look H 2 = some boxB
 r3 : Abs.look H 3 = some (dRow op name tp tk)
 rg : A0n eB tyU H g l
 hp : p = pNil \/ p = .ptr 0 0
section
variable {H : Heap} {g nx : Nat} {p : PV} {l m : List UInt8} {op : Int} {name : ByteArray} {tp tk : T}
theorem WS.next (h : WS H g p l op name tp tk) (g0 : g ≠ 0) (g2 : g ≠ 2) (g3 : g ≠ 3) (hn : 3 < nx) : WS (wsH H 0 g nx l m) nx (.ptr 0 0) m op name tp tk where
 r0 := C5u h.r0 (by omega) (.inr (Ne.symm g0))
 r2 := (A9b (by omega) (.inr (Ne.symm g2)) (by omega)).trans h.r2
 r3 := (A9b (by omega) (.inr (Ne.symm g3)) (by omega)).trans h.r3
 rg := C5v
 hp := .inr rfl
theorem WS.ld (h : WS H g p l op name tp tk) : A0s false 1 H (.ptr 2 0) = some (.ptr 0 0) := D8i h.r2
theorem WS.d0 (h : WS H g p l op name tp tk) : A0s false 1 H (.ptr 3 0) = some (.t (iv op)) := by simp only [A0s, h.r3]; rfl
theorem WS.d1 (h : WS H g p l op name tp tk) : A0s false 1 H (.ptr 3 1) = some (.t (sv name)) := by simp only [A0s, h.r3]; rfl
theorem WS.d2 (h : WS H g p l op name tp tk) : A0s false 1 H (.ptr 3 2) = some (.t tp) := by simp only [A0s, h.r3]; rfl
theorem WS.d3 (h : WS H g p l op name tp tk) : A0s false 1 H (.ptr 3 3) = some (.t tk) := by simp only [A0s, h.r3]; rfl
theorem WS.fin (h : WS H g (.ptr 0 0) l op name tp tk) (g0 : g ≠ 0) {env : List (Nat × PV)} {e : Exit} (he : e = .normal \/ e = .ret) (n : Nat) :
  B2b Tryz.prog (G q) 2 [] (fun r0 H0 nx0 => r0 = PV.t (T.tu []) /\ H0 = (0, bldR (.ptr 0 0) 2 l) :: rowH eB tyU 2 l /\ nx0 = 3) e ⟨env, H, nx, n⟩ :=
 ⟨he, ⟨[], [(0, bldR (.ptr 0 0) 2 l)] ++ (rowH eB tyU 2 l ++ []), 3, n⟩, [], C2m h.r0 (.inr rfl) h.rg (by omega) (by omega) (by omega) g0 (fun x hx => (by cases hx)) (fun x hx => (by cases hx)), rfl, rfl, by rw [List.append_nil]; rfl, rfl⟩
theorem WS.write (h : WS H g p l op name tp tk) (g0 : g ≠ 0) (g2 : g ≠ 2) (g3 : g ≠ 3) (hn : 3 < nx) {s : List UInt8} (hs : s ≠ []) (hlen : l.length + s.length <= 2000000000) :
  ∃ t H2, WS H2 nx (.ptr 0 0) (l ++ s) op name tp tk /\ HOK Tryz.prog (G q) 64 t /\ t [.ptr 0 0, .t (sv (bs s))] H nx = some (.t (.tu [iv (s.length : Int), .v .nilIface]), H2, nx + 1) :=
 ⟨_, _, h.next g0 g2 g3 hn, E2p h.r0 h.hp h.rg hs (by omega) (by omega), A2d _ _ _ _⟩
theorem WS.kids {kids : List Ds} (h : WS H g p l op name tp tk) (g0 : g ≠ 0) (g2 : g ≠ 2) (g3 : g ≠ 3) (hn : 3 < nx) (hgn : g < nx) (hw : ∀ k ∈ kids, WrOK q k /\ Wr k) (hkl : kids.length <= 1000) {ts : T} (hk : IsK ts kids) (sep : List UInt8) (hsep : sep ≠ [] \/ kids.length <= 1)
  (hkne : p = pNil -> kids ≠ []) (hm : l ++ wrL sep sep kids ≠ []) (hl : l.length + (wrL sep sep kids).length <= 1000000000) :
  ∃ t H2, WS H2 nx (.ptr 0 0) (l ++ wrL sep sep kids) op name tp tk /\ HOK Tryz.prog (G q) 63 t /\ t [.t ts, .t (sv (bs sep)), .ptr 2 0] H nx = some (.t (.tu []), H2, nx + 1) :=
 ⟨_, _, h.next g0 g2 g3 hn, E1o hw hkl hk sep hsep hkne hm hl h.r0 h.hp h.r2 h.rg hgn g0 g2 (by omega), A2d _ _ _ _⟩
end
theorem E1p {op : Int} {name : ByteArray} {path : List ByteArray} {kids : List Ds} (hwr : Wr (.mk op name path kids)) (hkids : ∀ k ∈ kids, WrOK q k) : WrOK q (.mk op name path kids) := fun c p l hc hp hl => by
 obtain ⟨w1, w2, w3, w4, wn1, wn2, w5, w6, w7, w8⟩ := hwr.parts
 have hw : ∀ k ∈ kids, WrOK q k /\ Wr k := fun k hk => ⟨hkids k hk, w8 k hk⟩
 obtain ⟨tp, tk, rfl, hpa, hk⟩ := hc.parts
 obtain ⟨W, hW⟩ : ∃ W, W = wrD (.mk op name path kids) := ⟨_, rfl⟩
 rw [<- hW] at hl ⊢
 rw [wrD] at hW
 obtain ⟨H1, hH1⟩ : ∃ H1, H1 = ((3, dRow op name tp tk) :: (2, boxB) :: (0, bldR p 1 l) :: rowH eB tyU 1 l : Heap) := ⟨_, rfl⟩
 have ws1 : WS H1 1 p l op name tp tk := by
  rw [hH1]
  refine ⟨rfl, rfl, rfl, ?_, hp⟩
  exact (((A0n.head' eB tyU 1 l).cons (by omega)).cons (by omega)).cons (by omega)
 have hop : op = 1 \/ op = 2 \/ op = 3 \/ op = 4 \/ op = 5 \/ op = 6 \/ op = 7 \/ op = 8 := by omega
 refine C3q.callP rfl ?_
 unfold B4p
 refine A0a A2e ?_
 simp -implicitDefEqProofs [B7p]
 have mk1 : exM (.mkf (.func 63) 0) [PV.ptr 2 0] = some (.fn (.func 63) [] [.ptr 2 0]) := rfl
 refine A0a A2e ?_
 simp -implicitDefEqProofs [mk1]
 refine MC.sub (s' := ⟨[(4, .fn (.func 63) [] [.ptr 2 0]), (3, .ptr 3 0), (2, .ptr 2 0)], H1, 4, 100⟩) (by rw [hH1]; exact A1i (by simp -implicitDefEqProofs)) rfl ?_
 have d0 := ws1.d0
 have d1 := ws1.d1
 have d2 := ws1.d2
 have d3 := ws1.d3
 have b1 := ws1.ld
 have hWl : W.length <= 1000000000 := by omega
 obtain ⟨m, hm⟩ : ∃ m, m = l ++ W := ⟨_, rfl⟩
 rw [<- hm]
 -- one write from H1
 have one : ∀ s : List UInt8, s ≠ [] -> s.length <= 1000000000 -> ∃ t H2, WS H2 4 (.ptr 0 0) (l ++ s) op name tp tk /\ HOK Tryz.prog (G q) 64 t /\ t [.ptr 0 0, .t (sv (bs s))] H1 4 = some (.t (.tu [iv (s.length : Int), .v .nilIface]), H2, 5) := fun s hs hsl =>
  ⟨_, _, ws1.next (by omega) (by omega) (by omega) (by omega), E2p ws1.r0 ws1.hp ws1.rg hs (by omega) (by omega), A2d _ _ _ _⟩
 rcases hop with rfl | rfl | rfl | rfl | rfl | rfl | rfl | rfl
 ·rw [if_pos rfl] at hW
  have hne : name.data.toList ≠ [] := fun h => wn1 rfl (by have : name.data.toList.length = name.size := rfl; rw [h] at this; exact this.symm)
  obtain ⟨t, H2, ws2, hok, e⟩ := one name.data.toList hne (by rw [<- hW]; exact hWl)
  rw [A9u] at e
  rw [<- hW, <- hm] at ws2
  have C := A0z.nil.ctxH (A1r.cons hok .nil) mixed
  refine A0c C ?_
  simp -implicitDefEqProofs [d0, d1, b1, e]
  exact ws2.fin (by omega) (.inl rfl) 100
 ·rw [if_neg (by decide), if_pos rfl] at hW
  have a1 := E6v 64 (s := name) (by rw [hW, List.length_cons] at hWl; omega)
  obtain ⟨t, H2, ws2, hok, e⟩ := one W (by rw [hW]; simp) hWl
  rw [<- hm] at ws2
  rw [<- hW] at a1
  have C := A0z.nil.ctxH (A1r.cons hok .nil) mixed
  refine A0c C ?_
  simp -implicitDefEqProofs [d0, d1, b1, a1, e]
  exact ws2.fin (by omega) (.inl rfl) 100
 ·rw [if_neg (by decide), if_neg (by decide), if_pos rfl] at hW
  have a1 := E6v 35 (s := name) (by rw [hW, List.length_cons] at hWl; omega)
  obtain ⟨t, H2, ws2, hok, e⟩ := one W (by rw [hW]; simp) hWl
  rw [<- hm] at ws2
  rw [<- hW] at a1
  have C := A0z.nil.ctxH (A1r.cons hok .nil) mixed
  refine A0c C ?_
  simp -implicitDefEqProofs [d0, d1, b1, a1, e]
  exact ws2.fin (by omega) (.inl rfl) 100
 ·rw [if_neg (by decide), if_neg (by decide), if_neg (by decide), if_pos rfl] at hW
  have hne := wn2 rfl
  have hmne : l ++ wrL [32, 38, 32] [32, 38, 32] kids ≠ [] := by
   rw [<- hW]
   have := D8h hwr
   rw [wrD, if_neg (by decide), if_neg (by decide), if_neg (by decide), if_pos rfl, <- hW] at this
   simp [this]
  obtain ⟨t, H2, ws2, hok, e⟩ := ws1.kids (q := q) (nx := 4) (by omega) (by omega) (by omega) (by omega) (by omega) hw w6 hk [32, 38, 32] (.inl (by simp)) (fun _ => hne) hmne (by rw [<- hW]; exact hl)
  rw [<- hW, <- hm] at ws2
  rw [show bs [32, 38, 32] = ⟨#[32, 38, 32]⟩ from rfl] at e
  have C := A0z.nil.ctxH (A1r.cons hok .nil) mixed
  refine A0c C ?_
  simp -implicitDefEqProofs [d0, d3, e]
  exact ws2.fin (by omega) (.inl rfl) 100
 ·rw [if_neg (by decide), if_neg (by decide), if_neg (by decide), if_neg (by decide), if_pos rfl] at hW
  obtain ⟨hpne, hk1⟩ := w3 rfl
  obtain ⟨D, hD⟩ : ∃ D, D = A3r path := ⟨_, rfl⟩
  obtain ⟨J, hJ⟩ : ∃ J, J = wrL [] [] kids := ⟨_, rfl⟩
  rw [<- hD, <- hJ] at hW
  have hJl : D.length + J.length + 3 = W.length := by rw [hW]; simp; omega
  have gj := E7c hpa w5 (by rw [<- hD]; omega)
  rw [<- hD] at gj
  have a1 := sadd (a := [91]) (b := D) (by simp; omega)
  have a2 := sadd (a := 91 :: D) (b := [32]) (by simp; omega)
  rw [show bs [91] = ⟨#[91]⟩ from rfl] at a1
  rw [show bs [32] = ⟨#[32]⟩ from rfl] at a2
  simp only [List.cons_append, List.nil_append] at a1 a2
  obtain ⟨t2, H2, ws2, hok2, e2⟩ := ws1.write (q := q) (nx := 4) (s := 91 :: (D ++ [32])) (by omega) (by omega) (by omega) (by omega) (by simp) (by simp; omega)
  obtain ⟨t3, H3, ws3, hok3, e3⟩ := ws2.kids (q := q) (nx := 5) (by omega) (by omega) (by omega) (by omega) (by omega) hw w6 hk [] (.inr (by omega)) (fun h => (by cases h)) (by simp) (by rw [<- hJ, List.length_append]; simp; omega)
  rw [<- hJ] at ws3
  obtain ⟨t4, H4, ws4, hok4, e4⟩ := ws3.write (q := q) (nx := 6) (s := [93]) (by omega) (by omega) (by omega) (by omega) (by simp) (by simp; omega)
  have hfin : l ++ 91 :: (D ++ [32]) ++ J ++ [93] = m := by rw [hm, hW]; simp
  rw [hfin] at ws4
  rw [show bs [] = ⟨#[]⟩ from rfl] at e3
  rw [show bs [93] = ⟨#[93]⟩ from rfl] at e4
  have b2 := ws2.ld
  have c3 := ws2.d3
  have b3 := ws3.ld
  refine A0a A2e ?_
  simp -implicitDefEqProofs [d0]
  refine A0w ?_
  refine A0a A2e ?_
  simp -implicitDefEqProofs
  refine A1t (t := false) rfl ?_
  simp only [Bool.false_eq_true, if_false]
  refine A0a A2e ?_
  simp -implicitDefEqProofs
  refine A1t (t := false) rfl ?_
  simp only [Bool.false_eq_true, if_false]
  refine A0a A2e ?_
  simp -implicitDefEqProofs
  refine A1t (t := false) rfl ?_
  simp only [Bool.false_eq_true, if_false]
  refine A0a A2e ?_
  simp -implicitDefEqProofs
  refine A1t (t := false) rfl ?_
  simp only [Bool.false_eq_true, if_false]
  refine A0a A2e ?_
  simp -implicitDefEqProofs
  refine A1t (t := true) rfl ?_
  simp only [if_true]
  refine A0a ((A0z.cons (hJo (q := q)) .nil).ctxH (A1r.cons hok2 .nil) mixed) ?_
  simp -implicitDefEqProofs [b1, d2, gj, a1, a2, e2]
  refine A0a (A0z.nil.ctxH (A1r.cons hok3 .nil) mixed) ?_
  simp -implicitDefEqProofs [c3, e3]
  refine A0c (A0z.nil.ctxH (A1r.cons hok4 .nil) mixed) ?_
  simp -implicitDefEqProofs [b3, e4]
  exact ws4.fin (by omega) (.inl rfl) 100
 ·rw [if_neg (by decide), if_neg (by decide), if_neg (by decide), if_neg (by decide), if_neg (by decide), if_pos rfl] at hW
  obtain ⟨J, hJ⟩ : ∃ J, J = wrL [44, 32] [44, 32] kids := ⟨_, rfl⟩
  rw [<- hJ] at hW
  have hJl : J.length + 2 = W.length := by rw [hW]; simp
  obtain ⟨t2, H2, ws2, hok2, e2⟩ := ws1.write (q := q) (nx := 4) (s := [60]) (by omega) (by omega) (by omega) (by omega) (by simp) (by simp; omega)
  obtain ⟨t3, H3, ws3, hok3, e3⟩ := ws2.kids (q := q) (nx := 5) (by omega) (by omega) (by omega) (by omega) (by omega) hw w6 hk [44, 32] (.inl (by simp)) (fun h => (by cases h)) (by simp) (by rw [<- hJ, List.length_append]; simp; omega)
  rw [<- hJ] at ws3
  obtain ⟨t4, H4, ws4, hok4, e4⟩ := ws3.write (q := q) (nx := 6) (s := [62]) (by omega) (by omega) (by omega) (by omega) (by simp) (by simp; omega)
  have hfin : l ++ [60] ++ J ++ [62] = m := by rw [hm, hW]; simp
  rw [hfin] at ws4
  rw [show bs [60] = ⟨#[60]⟩ from rfl] at e2
  rw [show bs [44, 32] = ⟨#[44, 32]⟩ from rfl] at e3
  rw [show bs [62] = ⟨#[62]⟩ from rfl] at e4
  have b2 := ws2.ld
  have c3 := ws2.d3
  have b3 := ws3.ld
  refine A0a A2e ?_
  simp -implicitDefEqProofs [d0]
  refine A0w ?_
  refine A0a A2e ?_
  simp -implicitDefEqProofs
  refine A1t (t := false) rfl ?_
  simp only [Bool.false_eq_true, if_false]
  refine A0a A2e ?_
  simp -implicitDefEqProofs
  refine A1t (t := false) rfl ?_
  simp only [Bool.false_eq_true, if_false]
  refine A0a A2e ?_
  simp -implicitDefEqProofs
  refine A1t (t := false) rfl ?_
  simp only [Bool.false_eq_true, if_false]
  refine A0a A2e ?_
  simp -implicitDefEqProofs
  refine A1t (t := false) rfl ?_
  simp only [Bool.false_eq_true, if_false]
  refine A0a A2e ?_
  simp -implicitDefEqProofs
  refine A1t (t := false) rfl ?_
  simp only [Bool.false_eq_true, if_false]
  refine A0a A2e ?_
  simp -implicitDefEqProofs
  refine A1t (t := true) rfl ?_
  simp only [if_true]
  refine A0a (A0z.nil.ctxH (A1r.cons hok2 .nil) mixed) ?_
  simp -implicitDefEqProofs [b1, e2]
  refine A0a (A0z.nil.ctxH (A1r.cons hok3 .nil) mixed) ?_
  simp -implicitDefEqProofs [c3, e3]
  refine A0c (A0z.nil.ctxH (A1r.cons hok4 .nil) mixed) ?_
  simp -implicitDefEqProofs [b3, e4]
  exact ws4.fin (by omega) (.inl rfl) 100
 ·rw [if_neg (by decide), if_neg (by decide), if_neg (by decide), if_neg (by decide), if_neg (by decide), if_neg (by decide), if_pos rfl, D8j [44, 32] [32, 124, 32] (w4 rfl)] at hW
  have h2k := w4 rfl
  have hkne : kids ≠ [] := by rintro rfl; simp at h2k
  obtain ⟨n, hn⟩ : ∃ n, n = kids.length - 1 := ⟨_, rfl⟩
  rw [<- hn] at hW
  obtain ⟨t1, t2, s1, s2, i1, i2⟩ := IsK.cut hk hkne (n := n) (by omega)
  obtain ⟨J, hJ⟩ : ∃ J, J = wrL [44, 32] [44, 32] (kids.take n) := ⟨_, rfl⟩
  obtain ⟨J2, hJ2⟩ : ∃ J2, J2 = wrL [] [] (kids.drop n) := ⟨_, rfl⟩
  rw [<- hJ, <- hJ2] at hW
  have hJl : J.length + J2.length + 5 = W.length := by rw [hW]; simp; omega
  have hlk : A2f (.t tk) = some (.t (iv (kids.length : Int))) := hk.len
  have en : IntKind.i64.wrap ((kids.length : Int) - 1) = (n : Int) := A1a (by omega) (by omega)
  obtain ⟨t3, H3, ws3, hok3, e3⟩ := ws1.write (q := q) (nx := 4) (s := [60]) (by omega) (by omega) (by omega) (by omega) (by simp) (by simp; omega)
  obtain ⟨t4, H4, ws4, hok4, e4⟩ := ws3.kids (q := q) (nx := 5) (by omega) (by omega) (by omega) (by omega) (by omega) (fun k h => hw k (List.mem_of_mem_take h)) (by rw [List.length_take]; omega) i1 [44, 32] (.inl (by simp)) (fun h => (by cases h)) (by simp) (by rw [<- hJ, List.length_append]; simp; omega)
  rw [<- hJ] at ws4
  obtain ⟨t5, H5, ws5, hok5, e5⟩ := ws4.write (q := q) (nx := 6) (s := [32, 124, 32]) (by omega) (by omega) (by omega) (by omega) (by simp) (by simp; omega)
  obtain ⟨t6, H6, ws6, hok6, e6⟩ := ws5.kids (q := q) (nx := 7) (by omega) (by omega) (by omega) (by omega) (by omega) (fun k h => hw k (List.mem_of_mem_drop h)) (by rw [List.length_drop]; omega) i2 [] (.inr (by rw [List.length_drop]; omega)) (fun h => (by cases h)) (by simp) (by rw [<- hJ2]; simp only [List.length_append, List.length_cons, List.length_nil]; omega)
  rw [<- hJ2] at ws6
  obtain ⟨t7, H7, ws7, hok7, e7⟩ := ws6.write (q := q) (nx := 8) (s := [62]) (by omega) (by omega) (by omega) (by omega) (by simp) (by simp only [List.length_append, List.length_cons, List.length_nil]; omega)
  have hfin : l ++ [60] ++ J ++ [32, 124, 32] ++ J2 ++ [62] = m := by rw [hm, hW]; simp
  rw [hfin] at ws7
  rw [show bs [60] = ⟨#[60]⟩ from rfl] at e3
  rw [show bs [44, 32] = ⟨#[44, 32]⟩ from rfl] at e4
  rw [show bs [32, 124, 32] = ⟨#[32, 124, 32]⟩ from rfl] at e5
  rw [show bs [] = ⟨#[]⟩ from rfl] at e6
  rw [show bs [62] = ⟨#[62]⟩ from rfl] at e7
  have c3 := ws3.d3
  have b4 := ws4.ld
  have c5 := ws5.d3
  have b6 := ws6.ld
  refine A0a A2e ?_
  simp -implicitDefEqProofs [d0]
  refine A0w ?_
  refine A0a A2e ?_
  simp -implicitDefEqProofs
  refine A1t (t := false) rfl ?_
  simp only [Bool.false_eq_true, if_false]
  refine A0a A2e ?_
  simp -implicitDefEqProofs
  refine A1t (t := false) rfl ?_
  simp only [Bool.false_eq_true, if_false]
  refine A0a A2e ?_
  simp -implicitDefEqProofs
  refine A1t (t := false) rfl ?_
  simp only [Bool.false_eq_true, if_false]
  refine A0a A2e ?_
  simp -implicitDefEqProofs
  refine A1t (t := false) rfl ?_
  simp only [Bool.false_eq_true, if_false]
  refine A0a A2e ?_
  simp -implicitDefEqProofs
  refine A1t (t := false) rfl ?_
  simp only [Bool.false_eq_true, if_false]
  refine A0a A2e ?_
  simp -implicitDefEqProofs
  refine A1t (t := false) rfl ?_
  simp only [Bool.false_eq_true, if_false]
  refine A0a A2e ?_
  simp -implicitDefEqProofs
  refine A1t (t := true) rfl ?_
  simp only [if_true]
  refine A0a A2e ?_
  simp -implicitDefEqProofs [d3, hlk, en]
  refine A0a (A0z.nil.ctxH (A1r.cons hok3 .nil) mixed) ?_
  simp -implicitDefEqProofs [b1, e3]
  refine A0a (A0z.nil.ctxH (A1r.cons hok4 .nil) mixed) ?_
  simp -implicitDefEqProofs [c3, s1, e4]
  refine A0a (A0z.nil.ctxH (A1r.cons hok5 .nil) mixed) ?_
  simp -implicitDefEqProofs [b4, e5]
  refine A0a (A0z.nil.ctxH (A1r.cons hok6 .nil) mixed) ?_
  simp -implicitDefEqProofs [c5, s2, e6]
  refine A0c (A0z.nil.ctxH (A1r.cons hok7 .nil) mixed) ?_
  simp -implicitDefEqProofs [b6, e7]
  exact ws7.fin (by omega) (.inl rfl) 100
 ·rw [if_neg (by decide), if_neg (by decide), if_neg (by decide), if_neg (by decide), if_neg (by decide), if_neg (by decide), if_neg (by decide)] at hW
  obtain ⟨J, hJ⟩ : ∃ J, J = wrL [44, 32] [44, 32] kids := ⟨_, rfl⟩
  rw [<- hJ] at hW
  have hlk : A2f (.t tk) = some (.t (iv (kids.length : Int))) := hk.len
  have hJl : J.length + 3 <= W.length := by
   rw [hW]
   split
   ·rename_i h
    rw [hJ, List.eq_nil_of_length_eq_zero h, wrL]; simp
   ·simp only [List.length_cons, List.length_append]; omega
  obtain ⟨t2, H2, ws2, hok2, e2⟩ := ws1.write (q := q) (nx := 4) (s := [60, 33, 32]) (by omega) (by omega) (by omega) (by omega) (by simp) (by simp; omega)
  obtain ⟨t3, H3, ws3, hok3, e3⟩ := ws2.kids (q := q) (nx := 5) (by omega) (by omega) (by omega) (by omega) (by omega) hw w6 hk [44, 32] (.inl (by simp)) (fun h => (by cases h)) (by simp) (by rw [<- hJ, List.length_append]; simp; omega)
  rw [<- hJ] at ws3
  rw [show bs [60, 33, 32] = ⟨#[60, 33, 32]⟩ from rfl] at e2
  rw [show bs [44, 32] = ⟨#[44, 32]⟩ from rfl] at e3
  have b2 := ws2.ld
  have c3 := ws2.d3
  have b3 := ws3.ld
  have c33 := ws3.d3
  refine A0a A2e ?_
  simp -implicitDefEqProofs [d0]
  refine A0w ?_
  refine A0a A2e ?_
  simp -implicitDefEqProofs
  refine A1t (t := false) rfl ?_
  simp only [Bool.false_eq_true, if_false]
  refine A0a A2e ?_
  simp -implicitDefEqProofs
  refine A1t (t := false) rfl ?_
  simp only [Bool.false_eq_true, if_false]
  refine A0a A2e ?_
  simp -implicitDefEqProofs
  refine A1t (t := false) rfl ?_
  simp only [Bool.false_eq_true, if_false]
  refine A0a A2e ?_
  simp -implicitDefEqProofs
  refine A1t (t := false) rfl ?_
  simp only [Bool.false_eq_true, if_false]
  refine A0a A2e ?_
  simp -implicitDefEqProofs
  refine A1t (t := false) rfl ?_
  simp only [Bool.false_eq_true, if_false]
  refine A0a A2e ?_
  simp -implicitDefEqProofs
  refine A1t (t := false) rfl ?_
  simp only [Bool.false_eq_true, if_false]
  refine A0a A2e ?_
  simp -implicitDefEqProofs
  refine A1t (t := false) rfl ?_
  simp only [Bool.false_eq_true, if_false]
  refine A0a A2e ?_
  simp -implicitDefEqProofs
  refine A1t (t := true) rfl ?_
  simp only [if_true]
  refine A0a (A0z.nil.ctxH (A1r.cons hok2 .nil) mixed) ?_
  simp -implicitDefEqProofs [b1, e2]
  refine A0a (A0z.nil.ctxH (A1r.cons hok3 .nil) mixed) ?_
  simp -implicitDefEqProofs [c3, e3]
  by_cases hz : kids.length = 0
  ·rw [if_pos hz] at hW
   have hz' : ¬ 0 < kids.length := by omega
   have hJ0 : J = [] := by rw [hJ, List.eq_nil_of_length_eq_zero hz, wrL]
   subst hJ0
   obtain ⟨t4, H4, ws4, hok4, e4⟩ := ws3.write (q := q) (nx := 6) (s := [33, 62]) (by omega) (by omega) (by omega) (by omega) (by simp) (by simp; omega)
   have hfin : l ++ [60, 33, 32] ++ [] ++ [33, 62] = m := by rw [hm, hW]; simp
   rw [hfin] at ws4
   rw [show bs [33, 62] = ⟨#[33, 62]⟩ from rfl] at e4
   refine A0c (A0z.nil.ctxH (A1r.cons hok4 .nil) mixed) ?_
   simp -implicitDefEqProofs [c33, hlk, hz, hz', b3, e4]
   exact ws4.fin (by omega) (.inl rfl) 100
  ·rw [if_neg hz] at hW
   have hJl2 : J.length + 6 = W.length := by rw [hW]; simp
   have hz' : 0 < kids.length := by omega
   obtain ⟨t4, H4, ws4, hok4, e4⟩ := ws3.write (q := q) (nx := 6) (s := [32]) (by omega) (by omega) (by omega) (by omega) (by simp) (by simp; omega)
   obtain ⟨t5, H5, ws5, hok5, e5⟩ := ws4.write (q := q) (nx := 7) (s := [33, 62]) (by omega) (by omega) (by omega) (by omega) (by simp) (by simp; omega)
   have hfin : l ++ [60, 33, 32] ++ J ++ [32] ++ [33, 62] = m := by rw [hm, hW]; simp
   rw [hfin] at ws5
   rw [show bs [32] = ⟨#[32]⟩ from rfl] at e4
   rw [show bs [33, 62] = ⟨#[33, 62]⟩ from rfl] at e5
   have b4 := ws4.ld
   refine A0a (A0z.nil.ctxH (A1r.cons hok4 .nil) mixed) ?_
   simp -implicitDefEqProofs [c33, hlk, hz', b3, e4]
   refine A0c (A0z.nil.ctxH (A1r.cons hok5 .nil) mixed) ?_
   simp -implicitDefEqProofs [b4, e5]
   exact ws5.fin (by omega) (.inl rfl) 100
theorem D8k : ∀ {d : Ds}, Wr d -> WrOK q d := fun h => by
 induction h with
 | mk op name path kids h1 h2 h3 h4 n1 n2 h5 h6 h7 h8 ih => exact E1p (.mk op name path kids h1 h2 h3 h4 n1 n2 h5 h6 h7 h8) ih
def ixF {α : Type} (p : α -> Bool) : List α -> Nat -> Int
 | [], _ => -1
 | x :: r, j => if p x then (j : Int) else ixF p r (j + 1)
theorem C8g {α : Type} (p : α -> Bool) : ∀ (l : List α) (j : Nat), decide (0 <= ixF p l j) = l.any p
 | [], j => rfl
 | x :: r, j => by
  rw [ixF, List.any_cons]
  cases p x with
  | true => simp
  | false => simp only [Bool.false_eq_true, if_false, Bool.false_or]; exact C8g p r (j + 1)
theorem D2z {c : List T} {d : Ds} (hd : Abs.IsD d c) : A1k Tryz.prog (G q) 71 [.ag c] (· = bv (decide (d.op = 4))) := by
 cases d with
 | mk op name path kids =>
  obtain ⟨tp, tk, rfl, hp, hk⟩ := hd.parts
  have : (op == 4) = decide (op = 4) := rfl
  refine C1c.call rfl ?_
  refine A0c A2e ?_
  simp -implicitDefEqProofs [B2f, B7p, dl0, this, Ds.op]
  exact decide_eq_decide.2 Iff.rfl
noncomputable def gF1 (ts : List T) : Option T := g1 tD (fun d => some (bv (decide (d.op = 4)))) ts
theorem hF1 : GOK Tryz.prog (G q) 71 gF1 := B2o fun a x r ha hr => by
 injection hr with hr; subst hr
 obtain ⟨c, rfl, hd⟩ := ha
 exact D2z hd
theorem E7e {c : List T} {d : Ds} (h : Abs.IsD d c) : gF1 [.ag c] = some (bv (decide (d.op = 4))) := by
 show g1 _ _ _ = _
 rw [B2p (τ := tD) (x := d) ⟨c, rfl, h⟩]
def gTn (ts : List T) : Option T := match ts with
 | [.v (.string s)] => if s.size <= lim then some (bv (A0r false s)) else none
 | _ => none
def gTf (ts : List T) : Option T := match ts with
 | [.v (.string s)] => if s.size <= lim then some (bv (A0r true s)) else none
 | _ => none
theorem hTn : GOK Tryz.prog (G q) 72 gTn := fun args r h => by
 unfold gTn at h
 split at h
 ·split at h
  ·injection h with h; subst h; exact D4z _ (by assumption)
  ·cases h
 ·cases h
theorem hTf : GOK Tryz.prog (G q) 75 gTf := fun args r h => by
 unfold gTf at h
 split at h
 ·split at h
  ·injection h with h; subst h; exact C4e _ (by assumption)
  ·cases h
 ·cases h
theorem E7f {s : ByteArray} (h : s.size <= 1000000) : gTf [sv s] = some (bv (A0r true s)) := if_pos (by show s.size <= lim; unfold lim; omega)
theorem E7g {s : ByteArray} (h : s.size <= 1000000) : gTn [sv s] = some (bv (A0r false s)) := if_pos (by show s.size <= lim; unfold lim; omega)
def A4r (s : ByteArray) : Bool := !A0r true s
theorem D3a {s : ByteArray} (hs : s.size <= 1000000) : A1k Tryz.prog (G q) 74 [sv s] (· = bv (A4r s)) := by
 have C := (A0z.cons (hTf (q := q)) .nil).ctx mixed
 have hg := E7f hs
 refine C1d.call rfl ?_
 refine A0c C ?_
 simp -implicitDefEqProofs [B2g, hg]
 unfold A4r
 simp
def gF2 (ts : List T) : Option T := match ts with
 | [.v (.string s)] => if s.size <= 1000000 then some (bv (A4r s)) else none
 | _ => none
theorem hF2 : GOK Tryz.prog (G q) 74 gF2 := fun args r h => by
 unfold gF2 at h
 split at h
 ·split at h
  ·injection h with h; subst h; exact D3a (by assumption)
  ·cases h
 ·cases h
theorem E7h {s : ByteArray} (h : s.size <= 1000000) : gF2 [sv s] = some (bv (A4r s)) := if_pos h
theorem B5x (b : Bool) : A3a (bv b) = true := rfl
theorem D0k (b : Int) : A3a (iv b) = true := rfl
theorem C8h {tk : T} {kids : List Ds} (hk : IsK tk kids) (hl : kids.length <= 1000) : A1k Tryz.prog (G q) 111 [tk, fv 71] (· = iv (ixF (fun d : Ds => decide (d.op = 4)) kids 0)) := by
 have C : Ctx Tryz.prog (G q) (orh [] [(71, hOfT gF1)]) := A0z.nil.ctxH (.cons hF1.hok .nil) mixed
 have hlk : A2f (.t tk) = some (.t (iv (kids.length : Int))) := hk.len
 obtain ⟨W, hW⟩ : ∃ W, W = ixF (fun d : Ds => decide (d.op = 4)) kids 0 := ⟨_, rfl⟩
 rw [<- hW]
 refine B2h.call rfl ?_
 unfold A7e
 refine A0a C ?_
 simp -implicitDefEqProofs
 refine A2g (α := Unit) (fun _ => ⟨[], [], 0, 19⟩) (fun _ => W = -1) (fun _ => rfl) ?_ ?_
 ·refine A0a C ?_
  simp -implicitDefEqProofs [hlk]
  refine A0w ?_
  refine A1l (α := Nat) (fun j => ⟨[(8, .t (iv (j : Int))), (7, .t (iv (kids.length : Int))), (0, .t tk), (1, .t (fv 71))], [], 0, 19⟩) (fun j => kids.length - j) (fun j => j <= kids.length /\ ixF (fun d : Ds => decide (d.op = 4)) (kids.drop j) j = W) 0 (fun _ => rfl) ⟨by omega, by rw [List.drop_zero]; exact hW.symm⟩ (A1i (by simp -implicitDefEqProofs)) rfl ?_
  rintro j ⟨hj, heq⟩
  by_cases hlt : j < kids.length
  ·obtain ⟨x, hx⟩ : ∃ x, kids[j]? = some x := ⟨_, List.getElem?_eq_getElem hlt⟩
   obtain ⟨p, ci, h1, h2, h3⟩ := C0i hk hx
   have hlt' : (j : Int) < (kids.length : Int) := by omega
   have hg := E7e h3
   have ho : hOfT gF1 [.t (.ag ci)] [] 0 = some (.t (bv (decide (x.op = 4))), [], 0) := by
    simp only [hOfT, toTs, toT, Option.bind_some, hg, Option.map_some, B5x, if_true]
   rw [List.drop_eq_getElem_cons hlt] at heq
   have hxe : kids[j] = x := by rw [List.getElem?_eq_getElem hlt] at hx; injection hx
   rw [hxe, ixF] at heq
   cases hb : decide (x.op = 4) with
   | true =>
    rw [hb, if_pos rfl] at heq
    rw [hb] at ho
    rw [<- heq]
    refine A0c C ?_
    simp -implicitDefEqProofs [hlt, hlt', h1, h2, ho]
   | false =>
    rw [hb, if_neg (by simp)] at heq
    rw [hb] at ho
    obtain ⟨j1, hj1⟩ : ∃ j1, j1 = j + 1 := ⟨_, rfl⟩
    have ej : IntKind.i64.wrap ((j : Int) + 1) = (j1 : Int) := A1a (by omega) (by omega)
    refine A0c C ?_
    simp -implicitDefEqProofs [hlt, hlt', h1, h2, ho, ej]
    refine Abs.Next.mk j1 ⟨⟨by omega, by rw [hj1]; exact heq⟩, by omega⟩ (A1i (by simp -implicitDefEqProofs))
  ·have hlt' : ¬ (j : Int) < (kids.length : Int) := by omega
   rw [List.drop_eq_nil_of_le (by omega), ixF] at heq
   refine A0c C ?_
   simp -implicitDefEqProofs [hlt, hlt']
   exact Abs.Next.mk () heq.symm (A0e rfl rfl (by simp -implicitDefEqProofs) (by simp -implicitDefEqProofs))
 ·rintro ⟨⟩ hW0
  rw [hW0]
  refine A0c C ?_
  simp -implicitDefEqProofs
theorem C8i {tk : T} {kids : List ByteArray} (hk : IsS eStr tk kids) (hl : kids.length <= 1000) (hsz : ∀ s ∈ kids, s.size <= 1000000) : A1k Tryz.prog (G q) 113 [tk, fv 74] (· = iv (ixF A4r kids 0)) := by
 have C : Ctx Tryz.prog (G q) (orh [] [(74, hOfT gF2)]) := A0z.nil.ctxH (.cons hF2.hok .nil) mixed
 have hlk : A2f (.t tk) = some (.t (iv (kids.length : Int))) := hk.len
 obtain ⟨W, hW⟩ : ∃ W, W = ixF A4r kids 0 := ⟨_, rfl⟩
 rw [<- hW]
 refine B0l.call rfl ?_
 unfold A6g
 refine A0a C ?_
 simp -implicitDefEqProofs
 refine A2g (α := Unit) (fun _ => ⟨[], [], 0, 19⟩) (fun _ => W = -1) (fun _ => rfl) ?_ ?_
 ·refine A0a C ?_
  simp -implicitDefEqProofs [hlk]
  refine A0w ?_
  refine A1l (α := Nat) (fun j => ⟨[(8, .t (iv (j : Int))), (7, .t (iv (kids.length : Int))), (0, .t tk), (1, .t (fv 74))], [], 0, 19⟩) (fun j => kids.length - j) (fun j => j <= kids.length /\ ixF A4r (kids.drop j) j = W) 0 (fun _ => rfl) ⟨by omega, by rw [List.drop_zero]; exact hW.symm⟩ (A1i (by simp -implicitDefEqProofs)) rfl ?_
  rintro j ⟨hj, heq⟩
  by_cases hlt : j < kids.length
  ·obtain ⟨x, hx⟩ : ∃ x, kids[j]? = some x := ⟨_, List.getElem?_eq_getElem hlt⟩
   obtain ⟨r, h1⟩ := E6s hk hx
   have hlt' : (j : Int) < (kids.length : Int) := by omega
   have hg := E7h (hsz x (List.mem_of_getElem? hx))
   have ho : hOfT gF2 [.t (sv x)] [] 0 = some (.t (bv (A4r x)), [], 0) := by
    simp only [hOfT, toTs, toT, Option.bind_some, hg, Option.map_some, B5x, if_true]
   rw [List.drop_eq_getElem_cons hlt] at heq
   have hxe : kids[j] = x := by rw [List.getElem?_eq_getElem hlt] at hx; injection hx
   rw [hxe, ixF] at heq
   cases hb : A4r x with
   | true =>
    rw [hb, if_pos rfl] at heq
    rw [hb] at ho
    rw [<- heq]
    refine A0c C ?_
    simp -implicitDefEqProofs [hlt, hlt', h1, lh1, ho]
   | false =>
    rw [hb, if_neg (by simp)] at heq
    rw [hb] at ho
    obtain ⟨j1, hj1⟩ : ∃ j1, j1 = j + 1 := ⟨_, rfl⟩
    have ej : IntKind.i64.wrap ((j : Int) + 1) = (j1 : Int) := A1a (by omega) (by omega)
    refine A0c C ?_
    simp -implicitDefEqProofs [hlt, hlt', h1, lh1, ho, ej]
    refine Abs.Next.mk j1 ⟨⟨by omega, by rw [hj1]; exact heq⟩, by omega⟩ (A1i (by simp -implicitDefEqProofs))
  ·have hlt' : ¬ (j : Int) < (kids.length : Int) := by omega
   rw [List.drop_eq_nil_of_le (by omega), ixF] at heq
   refine A0c C ?_
   simp -implicitDefEqProofs [hlt, hlt']
   exact Abs.Next.mk () heq.symm (A0e rfl rfl (by simp -implicitDefEqProofs) (by simp -implicitDefEqProofs))
 ·rintro ⟨⟩ hW0
  rw [hW0]
  refine A0c C ?_
  simp -implicitDefEqProofs
def tFv (F : Nat) : Ty Unit := ⟨fun t _ => t = fv F, fun _ _ _ _ _ => rfl⟩
noncomputable def gIx1 (ts : List T) : Option T := g2 tK (tFv 71) (fun kids _ => if kids.length <= 1000 then some (iv (ixF (fun d : Ds => decide (d.op = 4)) kids 0)) else none) ts
theorem hIx1 : GOK Tryz.prog (G q) 111 gIx1 := A8i fun a b x y r ha hb hr => by
 split at hr
 ·injection hr with hr; subst hr
  cases hb
  exact C8h ha (by assumption)
 ·cases hr
theorem E4t {tk : T} {kids : List Ds} (hk : IsK tk kids) (hl : kids.length <= 1000) : gIx1 [tk, fv 71] = some (iv (ixF (fun d : Ds => decide (d.op = 4)) kids 0)) := by
 show g2 _ _ _ _ = _
 rw [A8v (τ := tK) (σ := tFv 71) (x := kids) (y := ()) hk rfl, if_pos hl]
noncomputable def gIx2 (ts : List T) : Option T := g2 (tSl eStr) (tFv 74) (fun kids _ => open Classical in if kids.length <= 1000 /\ ∀ s ∈ kids, s.size <= 1000000 then some (iv (ixF A4r kids 0)) else none) ts
theorem hIx2 : GOK Tryz.prog (G q) 113 gIx2 := A8i fun a b x y r ha hb hr => by
 split at hr
 ·rename_i hc
  injection hr with hr; subst hr
  cases hb
  exact C8i ha hc.1 hc.2
 ·cases hr
theorem E4u {tk : T} {kids : List ByteArray} (hk : IsS eStr tk kids) (hl : kids.length <= 1000) (hs : ∀ s ∈ kids, s.size <= 1000000) : gIx2 [tk, fv 74] = some (iv (ixF A4r kids 0)) := by
 show g2 _ _ _ _ = _
 rw [A8v (τ := tSl eStr) (σ := tFv 74) (x := kids) (y := ()) hk rfl, if_pos ⟨hl, hs⟩]
theorem D3b {tk : T} {kids : List Ds} (hk : IsK tk kids) (hl : kids.length <= 1000) : A1k Tryz.prog (G q) 70 [tk, fv 71] (· = bv (kids.any fun d => decide (d.op = 4))) := by
 have C : Ctx Tryz.prog (G q) (orh [] [(111, hOfT gIx1)]) := A0z.nil.ctxH (.cons hIx1.hok .nil) mixed
 have hg := E4t hk hl
 have ho : hOfT gIx1 [.t tk, .t (fv 71)] [] 0 = some (.t (iv (ixF (fun d : Ds => decide (d.op = 4)) kids 0)), [], 0) := by
  simp only [hOfT, toTs, toT, Option.bind_some, hg, Option.map_some, D0k, if_true]
 have hd := C8g (fun d : Ds => decide (d.op = 4)) kids 0
 generalize ixF (fun d : Ds => decide (d.op = 4)) kids 0 = W at ho hd
 generalize (kids.any fun d => decide (d.op = 4)) = B at hd
 refine A9q.call rfl ?_
 refine A0c C ?_
 simp -implicitDefEqProofs [A5u, ho, hd]
theorem D3c {tk : T} {kids : List ByteArray} (hk : IsS eStr tk kids) (hl : kids.length <= 1000) (hs : ∀ s ∈ kids, s.size <= 1000000) : A1k Tryz.prog (G q) 73 [tk, fv 74] (· = bv (kids.any A4r)) := by
 have C : Ctx Tryz.prog (G q) (orh [] [(113, hOfT gIx2)]) := A0z.nil.ctxH (.cons hIx2.hok .nil) mixed
 have hg := E4u hk hl hs
 have ho : hOfT gIx2 [.t tk, .t (fv 74)] [] 0 = some (.t (iv (ixF A4r kids 0)), [], 0) := by
  simp only [hOfT, toTs, toT, Option.bind_some, hg, Option.map_some, D0k, if_true]
 have hd := C8g A4r kids 0
 generalize ixF A4r kids 0 = W at ho hd
 generalize kids.any A4r = B at hd
 refine A8u.call rfl ?_
 refine A0c C ?_
 simp -implicitDefEqProofs [A4z, ho, hd]
noncomputable def gCo1 (ts : List T) : Option T := g2 tK (tFv 71) (fun kids _ => if kids.length <= 1000 then some (bv (kids.any fun d => decide (d.op = 4))) else none) ts
theorem hCo1 : GOK Tryz.prog (G q) 70 gCo1 := A8i fun a b x y r ha hb hr => by
 split at hr
 ·injection hr with hr; subst hr
  cases hb
  exact D3b ha (by assumption)
 ·cases hr
theorem E4v {tk : T} {kids : List Ds} (hk : IsK tk kids) (hl : kids.length <= 1000) : gCo1 [tk, fv 71] = some (bv (kids.any fun d => decide (d.op = 4))) := by
 show g2 _ _ _ _ = _
 rw [A8v (τ := tK) (σ := tFv 71) (x := kids) (y := ()) hk rfl, if_pos hl]
noncomputable def gCo2 (ts : List T) : Option T := g2 (tSl eStr) (tFv 74) (fun kids _ => open Classical in if kids.length <= 1000 /\ ∀ s ∈ kids, s.size <= 1000000 then some (bv (kids.any A4r)) else none) ts
theorem hCo2 : GOK Tryz.prog (G q) 73 gCo2 := A8i fun a b x y r ha hb hr => by
 split at hr
 ·rename_i hc
  injection hr with hr; subst hr
  cases hb
  exact D3c ha hc.1 hc.2
 ·cases hr
theorem E4w {tk : T} {kids : List ByteArray} (hk : IsS eStr tk kids) (hl : kids.length <= 1000) (hs : ∀ s ∈ kids, s.size <= 1000000) : gCo2 [tk, fv 74] = some (bv (kids.any A4r)) := by
 show g2 _ _ _ _ = _
 rw [A8v (τ := tSl eStr) (σ := tFv 74) (x := kids) (y := ()) hk rfl, if_pos ⟨hl, hs⟩]
end Go.Proofs.YtjkkgbdoeaihmaaGreatDoor
