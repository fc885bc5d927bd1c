/-
 Auxiliary facts. No statement of the program stands here.
-/
import Derived.Test.YtjkkgbdoeaihmaaGreatDoorUD3Q16
import Derived.Test.YtjkkgbdoeaihmaaGreatDoorUD3Q17
import Derived.Test.YtjkkgbdoeaihmaaGreatDoorUD3Q13
import Derived.Test.YtjkkgbdoeaihmaaGreatDoorUD3Q18
import Derived.Test.YtjkkgbdoeaihmaaGreatDoorUD3Q14
import Derived.Test.YtjkkgbdoeaihmaaGreatDoorUD3Q15
namespace Go.Proofs.YtjkkgbdoeaihmaaGreatDoor
set_option linter.unusedSimpArgs false
set_option linter.unusedVariables false
open Go Go.Abs Go.RowKit
abbrev bs (l : List UInt8) : ByteArray := ⟨l.toArray⟩
theorem A9u (s : ByteArray) : bs s.data.toList = s := by cases s; simp [bs]
section
variable {q : Gl}
theorem A6y {w w' : World} (h : w' = w) : Below w.heap.size w w' := by subst h; exact Below.refl _ _
theorem C6w (w : World) (e : TypeId) (t : ByteArray) : Below w.heap.size w (Lib.bytesWorld w e t) := by
 unfold Lib.bytesWorld World.freeze
 rw [if_neg (by decide)]
 have e : ∀ o, (w.drew.alloc o).heap = w.heap.push o := fun _ => rfl
 refine ⟨rfl, rfl, rfl, ?_, fun j hj => ?_⟩
 ·simp only [Array.size_modify, e, Array.size_push]; omega
 ·simp only [e]
  rw [Array.getElem?_modify, if_neg (by omega), Array.getElem?_push_lt hj]
  simp [hj]
noncomputable def A6o : List T -> Option T := g2 tStr tStr fun s p => some (bv (Lib.hasPrefix s.data.toList p.data.toList))
theorem D1y : GOK Tryz.prog (G q) 120 A6o := A8i fun a b s p r ha hb hr => by
 have e1 : a = .v (.string s) := ha
 have e2 : b = .v (.string p) := hb
 subst e1; subst e2
 injection hr with hr; subst hr
 exact A1k.lib (vs := [.string s, .string p]) ⟨_, (Tryz.f120.body).get!, Tryz.func120, by kernel_rfl, by kernel_rfl⟩ fun I w _ => (Tryz.strings_HasPrefix s p w).mono fun e w' h => ⟨h.1, A6y h.2⟩
noncomputable def A8w : List T -> Option T := g2 tStr tStr fun s p => some (sv (bs (Lib.trimPrefix s.data.toList p.data.toList)))
theorem C6x : GOK Tryz.prog (G q) 130 A8w := A8i fun a b s p r ha hb hr => by
 have e1 : a = .v (.string s) := ha
 have e2 : b = .v (.string p) := hb
 subst e1; subst e2
 injection hr with hr; subst hr
 exact A1k.lib (vs := [.string s, .string p]) ⟨_, (Tryz.f130.body).get!, Tryz.func130, by kernel_rfl, by kernel_rfl⟩ fun I w _ => (Tryz.strings_TrimPrefix s p w).mono fun e w' h => ⟨h.1, A6y h.2⟩
def A8j : List T -> Option T
 | [.v (.string s), .v (.int .u8 c)] => some (iv (Lib.indexByte s.data.toList c.toNat.toUInt8))
 | _ => none
theorem D1z : GOK Tryz.prog (G q) 121 A8j := fun args r hr => by
 unfold A8j at hr
 split at hr
 ·rename_i s c
  injection hr with hr; subst hr
  exact A1k.lib (vs := [.string s, .int .u8 c]) ⟨_, (Tryz.f121.body).get!, Tryz.func121, by kernel_rfl, by kernel_rfl⟩ fun I w _ => (Tryz.strings_IndexByte s c w).mono fun e w' h => ⟨h.1, A6y h.2⟩
 ·cases hr
noncomputable def D9l : List T -> Option T := g2 tStr tStr fun s c => if s.size <= 9223372036854775807 /\ c.size < 100 /\ c.data.toList.all (fun b => decide (b.toNat < 128)) = true then some (sv (bs (Lib.trimS s.data.toList c.data.toList))) else none
theorem hTrim : GOK Tryz.prog (G q) 131 D9l := A8i fun a b s c r ha hb hr => by
 have e1 : a = .v (.string s) := ha
 have e2 : b = .v (.string c) := hb
 subst e1; subst e2
 split at hr
 ·rename_i h
  injection hr with hr; subst hr
  exact A1k.lib (vs := [.string s, .string c]) ⟨_, (Tryz.f131.body).get!, Tryz.func131, by kernel_rfl, by kernel_rfl⟩ fun I w _ => (Any.strings_Trim_laid Tryz.lays160 (by kernel_rfl) s c w h.1 (by omega) (ascii_of_all h.2.2)).mono fun e w' h => h
 ·cases hr
noncomputable def D4t : List T -> Option T := g1 tStr fun s => if s.size <= 281474976710656 then (match Lib.atoiAll s.data.toList with
 | .ok v => some (.tu [iv v, .v .nilIface])
 | .range => some (.tu [iv (Lib.atoiSat s.data.toList), .ic 163 (.pt [])])
 | .«syntax» => none) else none
theorem hAtoi : GOK Tryz.prog (G q) 132 D4t := B2o fun a s r ha hr => by
 have e1 : a = .v (.string s) := ha
 subst e1
 split at hr
 ·rename_i hlim
  split at hr
  ·rename_i v hv
   injection hr with hr; subst hr
   refine ⟨⟨_, (Tryz.f132.body).get!, Tryz.func132, by kernel_rfl, by kernel_rfl⟩, fun I w us hlt hG hargs => ?_⟩
   have e : us = #[.string s] := by
    have := C9g (vs := [.string s]) hargs
    cases us; simp_all
   subst e
   refine (Tryz.strconv_Atoi_ok s (by omega) v hv w).mono fun e w' h => ?_
   have hb : Below w.heap.size w w' := by
    rcases h.2 with h2 | ⟨t, rfl⟩
    ·exact A6y h2
    ·exact C6w w 5 t
   exact ⟨_, _, I, h.1, rfl, by simp [RepT, RepL], ⟨hb.os, hb.tape, hb.output⟩, hb.size, hb.block, fun _ h => h, fun _ h => .inl h, fun g hg => Nat.lt_of_lt_of_le (hlt g hg) hb.size⟩
  ·rename_i hv
   injection hr with hr; subst hr
   refine ⟨⟨_, (Tryz.f132.body).get!, Tryz.func132, by kernel_rfl, by kernel_rfl⟩, fun I w us hlt hG hargs => ?_⟩
   have e : us = #[.string s] := by
    have := C9g (vs := [.string s]) hargs
    cases us; simp_all
   subst e
   have hvar : w.var? Tryz.prog "strconv.ErrRange" = some #[.iface q.tr q.pr] := D9j (vs := [.iface q.tr q.pr]) (by kernel_rfl) (hG 2 [.v (.iface q.tr q.pr)] rfl).2
   refine (Tryz.strconv_Atoi_range_var s hlim hv q.tr q.pr w hvar).mono fun e w' h => ?_
   obtain ⟨N, he, hN, hw', hb⟩ := h
   have hN' := (Array.getElem?_eq_some_iff.1 hw').1
   refine ⟨_, _, fun g => I g \/ g = N, he, rfl, ?_, ⟨hb.os, hb.tape, hb.output⟩, hb.size, hb.block, fun _ h => .inl h, fun g h => ?_, fun g hg => ?_⟩
   ·simp only [RepT, RepL, RepC]
    exact ⟨_, rfl, _, _, rfl, rfl, _, _, rfl, ⟨_, rfl, N, 0, rfl, .inr rfl, trivial⟩, rfl⟩
   ·rcases h with h | rfl
    ·exact .inl h
    ·exact .inr hN
   ·rcases hg with hg | rfl
    ·exact Nat.lt_of_lt_of_le (hlt g hg) hb.size
    ·exact hN'
  ·cases hr
 ·cases hr
theorem D9m (l : List ByteArray) : l.flatMap eStr.enc = l.map fun x => .v (.string x) := by
 induction l with
 | nil => rfl
 | cons x l ih => rw [List.flatMap_cons, List.map_cons, ih]; rfl
end
open Go Go.Abs
variable {q : Gl}
theorem mixed : Tryz.prog.follows .mixedOrders = true := by kernel_rfl
theorem ctx0 : Ctx Tryz.prog (G q) (orc []) := A0z.nil.ctx mixed
abbrev cv (c : UInt8) : T := .v (.int .u8 (c.toNat : Int))
def A1f (c : UInt8) : Bool := decide (48 <= c.toNat) && decide (c.toNat <= 57)
def isUp (c : UInt8) : Bool := decide (65 <= c.toNat) && decide (c.toNat <= 90)
def A3l (c : UInt8) : Bool := decide (97 <= c.toNat) && decide (c.toNat <= 122)
def tChr : Ty UInt8 := ⟨fun t c => t = cv c, fun t a b h h' => by
 rw [h] at h'
 injection h' with h'; injection h' with _ h'
 exact UInt8.toNat_inj.1 (by omega)⟩
theorem B9s (c : UInt8) : A1k Tryz.prog (G q) 81 [cv c] (· = bv (A1f c)) := by
 refine C6s.runs ctx0 rfl ?_
 by_cases h1 : 48 <= c.toNat
 ·have h1' : (48 : Int) <= (c.toNat : Int) := by omega
  have e : decide ((c.toNat : Int) <= 57) = decide (c.toNat <= 57) := by congr 1; apply propext; omega
  simp -implicitDefEqProofs [B1a, A1f, h1, h1', e]
 ·have h1' : ¬ (48 : Int) <= (c.toNat : Int) := by omega
  simp -implicitDefEqProofs [B1a, A1f, h1, h1']
theorem B9t (c : UInt8) : A1k Tryz.prog (G q) 49 [cv c] (· = bv (isUp c)) := by
 refine C6r.runs ctx0 rfl ?_
 by_cases h1 : 65 <= c.toNat
 ·have h1' : (65 : Int) <= (c.toNat : Int) := by omega
  have e : decide ((c.toNat : Int) <= 90) = decide (c.toNat <= 90) := by congr 1; apply propext; omega
  simp -implicitDefEqProofs [B0z, isUp, h1, h1', e]
 ·have h1' : ¬ (65 : Int) <= (c.toNat : Int) := by omega
  simp -implicitDefEqProofs [B0z, isUp, h1, h1']
theorem B9u (c : UInt8) : A1k Tryz.prog (G q) 48 [cv c] (· = bv (A3l c)) := by
 refine C6u.runs ctx0 rfl ?_
 by_cases h1 : 97 <= c.toNat
 ·have h1' : (97 : Int) <= (c.toNat : Int) := by omega
  have e : decide ((c.toNat : Int) <= 122) = decide (c.toNat <= 122) := by congr 1; apply propext; omega
  simp -implicitDefEqProofs [B1c, A3l, h1, h1', e]
 ·have h1' : ¬ (97 : Int) <= (c.toNat : Int) := by omega
  simp -implicitDefEqProofs [B1c, A3l, h1, h1']
noncomputable def gChr (f : UInt8 -> Bool) : List T -> Option T := g1 tChr fun c => some (bv (f c))
theorem B4a {F : Nat} {f : UInt8 -> Bool} (h : ∀ c, A1k Tryz.prog (G q) F [cv c] (· = bv (f c))) : GOK Tryz.prog (G q) F (gChr f) :=
 B2o fun a x r ha hr => by
  have e : a = cv x := ha
  injection hr with hr; subst hr; subst e
  exact h x
theorem A9v (f : UInt8 -> Bool) (c : UInt8) : gChr f [cv c] = some (bv (f c)) := B2p (τ := tChr) rfl
noncomputable def tbc : Tbl := [(81, gChr A1f), (49, gChr isUp), (48, gChr A3l)]
theorem ctxc : Ctx Tryz.prog (G q) (orc tbc) := (A0z.cons (B4a B9s) (.cons (B4a B9t) (.cons (B4a B9u) .nil))).ctx mixed
def A2i (big : Bool) (c : UInt8) : Bool := A1f c || decide (c.toNat = 45) || (big && isUp c) || (!big && A3l c)
theorem D4u (c : UInt8) (big : Bool) : A1k Tryz.prog (G q) 80 [cv c, bv big] (· = bv (A2i big c)) := by
 refine D1w.runs ctxc rfl ?_
 have e45 : ((c.toNat : Int) == 45) = decide (c.toNat = 45) := by
  by_cases h : c.toNat = 45
  ·rw [h]; rfl
  ·rw [decide_eq_false h, beq_eq_false_iff_ne]; omega
 have q1 := A9v A1f c
 have q2 := A9v isUp c
 have q3 := A9v A3l c
 cases hd : A1f c <;> cases h4 : decide (c.toNat = 45) <;> cases big <;> cases hu : isUp c <;> cases hl : A3l c <;>
  simp -implicitDefEqProofs [B9r, tbc, q1, q2, q3, e45, hd, h4, hu, hl, A2i]
noncomputable def tbp : Tbl := [(81, gChr A1f), (80, g2 tChr C3z fun c b => some (bv (A2i b c)))]
theorem ctxp : Ctx Tryz.prog (G q) (orc tbp) := (A0z.cons (B4a B9s) (.cons (A8i fun a b x y r ha hb hr => by
 have e1 : a = cv x := ha
 have e2 : b = bv y := hb
 injection hr with hr; subst hr; subst e1; subst e2
 exact D4u x y) .nil)).ctx mixed
def A0r (big : Bool) (s : ByteArray) : Bool :=
 match s.data.toList with
 | [] => false
 | c :: r => decide (s.size <= 32) && !A1f c && !decide (c.toNat = 45) && (c :: r).all (A2i big)
def S142 (s : ByteArray) (big : Bool) (j : Nat) : A0b := ⟨[(5, .t (iv (j : Int))), (1, .t (bv big)), (0, .t (sv s))], [], 0, 36⟩
theorem A1o (s : ByteArray) (j : Nat) (c : UInt8) (h : s.data.toList[j]? = some c) : B9b (.t (sv s)) (.t (iv (j : Int))) = some (.t (cv c)) := by
 have hj : j < s.data.size := by
  have := (List.getElem?_eq_some_iff.1 h).1
  simpa using this
 have : s[j]? = some c := by
  have h2 : s.data[j]? = some c := by simpa using h
  have h3 : j < s.size := hj
  rw [getElem?_pos s j h3]
  rw [getElem?_pos s.data j hj] at h2
  exact h2
 simp [B9b, this]
theorem D2a (s : ByteArray) (big : Bool) (hs : s.size <= 9223372036854775807) : A1k Tryz.prog (G q) 114 [sv s, bv big] (· = bv (A0r big s)) := by
 refine C6q.call rfl ?_
 unfold B6r
 refine A0a ctxp ?_
 simp -implicitDefEqProofs
 have hlen : s.data.toList.length = s.size := rfl
 cases hl : s.data.toList with
 | nil =>
  rw [hl] at hlen
  have h0 : (s.size : Int) < 1 := by simp at hlen; omega
  refine A0c ctxp ?_
  simp -implicitDefEqProofs [h0, A0r, hl]
 | cons c r =>
  rw [hl] at hlen
  simp only [List.length_cons] at hlen
  have h0 : ¬ (s.size : Int) < 1 := by omega
  have hx0 : s.data.toList[0]? = some c := by rw [hl]; rfl
  have i0 := A1o s 0 c hx0
  simp only [Int.natCast_zero] at i0
  have qd := A9v A1f c
  by_cases h1 : 32 < s.size
  ·have h1' : (32 : Int) < (s.size : Int) := by omega
   have hz : decide (s.size <= 32) = false := decide_eq_false (by omega)
   refine A0c ctxp ?_
   simp -implicitDefEqProofs [h0, h1, h1', A0r, hl, hz]
  ·have h1' : ¬ (32 : Int) < (s.size : Int) := by omega
   have hz : decide (s.size <= 32) = true := decide_eq_true (by omega)
   cases hd : A1f c with
   | true =>
    refine A0c ctxp ?_
    simp -implicitDefEqProofs [h0, h1, h1', i0, tbp, qd, hd, A0r, hl]
   | false =>
    by_cases h4 : c.toNat = 45
    ·have h4' : ((c.toNat : Int) == 45) = true := by rw [h4]; rfl
     refine A0c ctxp ?_
     simp -implicitDefEqProofs [h0, h1, h1', i0, tbp, qd, hd, h4', A0r, hl, h4]
    ·have h4' : ((c.toNat : Int) == 45) = false := by rw [beq_eq_false_iff_ne]; omega
     refine A0a ctxp ?_
     simp -implicitDefEqProofs [h0, h1, h1', i0, tbp, qd, hd, h4']
     obtain ⟨n, hn⟩ : ∃ n, n = s.data.toList.findIdx fun c => !A2i big c := ⟨_, rfl⟩
     have hle : n <= s.size := by rw [hn]; exact D1x _ _
     have hres : A0r big s = decide (n = s.size) := by
      have : A0r big s = (s.data.toList).all (A2i big) := by
       unfold A0r
       rw [hl]
       simp only [hz, hd, h4, decide_false, Bool.not_false, Bool.true_and]
      rw [this]
      by_cases e : n = s.size
      ·rw [decide_eq_true e, List.all_eq_true]
       intro x hx
       have := C4b (p := fun c => !A2i big c) (l := s.data.toList) (by rw [<- hn, e]; rfl) x hx
       simpa using this
      ·rw [decide_eq_false e, List.all_eq_false]
       obtain ⟨x, hx, hp⟩ := B6w (p := fun c => !A2i big c) (l := s.data.toList) (by rw [<- hn]; show n < s.size; omega)
       exact ⟨x, List.mem_of_getElem? hx, by simpa using hp⟩
     rw [hres]
     refine A2g (fun _ : Unit => S142 s big s.size) (fun _ => n = s.size) (fun _ => rfl) ?_ ?_
     ·refine A0a ctxp ?_
      simp -implicitDefEqProofs
      refine A0w ?_
      refine D4p (S142 s big) n (fun _ => rfl) ?_ rfl ?_ ?_
      ·refine A0e rfl rfl ?_ ?_ <;> simp -implicitDefEqProofs [S142]
      ·intro j hj
       refine A0c ctxp ?_
       have hjs : j < s.size := by omega
       obtain ⟨x, hx⟩ : ∃ x, s.data.toList[j]? = some x := ⟨_, List.getElem?_eq_getElem hjs⟩
       have hp := B6v (p := fun c => !A2i big c) (by rw [<- hn]; exact hj) hx
       have hp' : A2i big x = true := by simpa using hp
       have e1 : IntKind.i64.wrap ((j : Int) + 1) = ((j + 1 : Nat) : Int) := A1a (by omega) (by omega)
       have q := A8v (τ := tChr) (σ := C3z) (f := fun c b => some (bv (A2i b c))) (a := cv x) (b := bv big) rfl rfl
       simp -implicitDefEqProofs [S142, hjs, A1o s j x hx, tbp, q, hp', e1]
       refine A0e rfl rfl ?_ ?_ <;> simp -implicitDefEqProofs
      ·refine A0c ctxp ?_
       by_cases e : n = s.size
       ·subst e
        simp -implicitDefEqProofs [S142]
        exact Next.mk () trivial (A0e rfl rfl (by simp -implicitDefEqProofs) (by simp -implicitDefEqProofs))
       ·have hjs : n < s.size := by omega
        obtain ⟨x, hx, hp⟩ := B6w (p := fun c => !A2i big c) (l := s.data.toList) (by rw [<- hn]; exact hjs)
        rw [<- hn] at hx
        have hp' : A2i big x = false := by simpa using hp
        have q := A8v (τ := tChr) (σ := C3z) (f := fun c b => some (bv (A2i b c))) (a := cv x) (b := bv big) rfl rfl
        simp -implicitDefEqProofs [S142, hjs, A1o s n x hx, tbp, q, hp', e]
     ·rintro _ e
      refine A0c ctxp ?_
      simp -implicitDefEqProofs [S142, e]
abbrev rv (c : Int) : T := .v (.int .i32 c)
def rLow (c : Int) : Bool := decide (97 <= c) && decide (c <= 122)
def rUp (c : Int) : Bool := decide (65 <= c) && decide (c <= 90)
def rDig (c : Int) : Bool := decide (48 <= c) && decide (c <= 57)
def E5i : Ty Int := ⟨fun t n => t = rv n, fun t a b h h' => by rw [h] at h'; injection h' with h'; injection h'⟩
theorem C4d (c : Int) : A1k Tryz.prog (G q) 91 [rv c] (· = bv (rLow c)) := by
 refine C3t.runs ctx0 rfl ?_
 by_cases h1 : 97 <= c <;> simp -implicitDefEqProofs [B4r, rLow, h1]
theorem C9h (c : Int) : A1k Tryz.prog (G q) 93 [rv c] (· = bv (rUp c)) := by
 refine C3u.runs ctx0 rfl ?_
 by_cases h1 : 65 <= c <;> simp -implicitDefEqProofs [B4s, rUp, h1]
theorem B6z (c : Int) : A1k Tryz.prog (G q) 94 [rv c] (· = bv (rDig c)) := by
 refine C3v.runs ctx0 rfl ?_
 by_cases h1 : 48 <= c <;> simp -implicitDefEqProofs [B4t, rDig, h1]
noncomputable def B8m (f : Int -> Bool) : List T -> Option T := g1 E5i fun c => some (bv (f c))
theorem A8x {F : Nat} {f : Int -> Bool} (h : ∀ c, A1k Tryz.prog (G q) F [rv c] (· = bv (f c))) : GOK Tryz.prog (G q) F (B8m f) :=
 B2o fun a x r ha hr => by
  have e : a = rv x := ha
  injection hr with hr; subst hr; subst e
  exact h x
theorem A8y (f : Int -> Bool) (c : Int) : B8m f [rv c] = some (bv (f c)) := B2p (τ := E5i) rfl
abbrev fv (F : Nat) : T := .v (.func (.func F) #[] #[])
theorem D9n (f : Int -> Bool) (c : Int) (H : Heap) (nx : Nat) : hOfT (B8m f) [.t (rv c)] H nx = some (.t (bv (f c)), H, nx) := by
 simp [hOfT, A8y]
theorem C1i (c : UInt8) : rLow (c.toNat : Int) = A3l c := by
 unfold rLow A3l
 congr 1
 ·congr 1; apply propext; omega
 ·congr 1; apply propext; omega
theorem C6y (c : UInt8) : rUp (c.toNat : Int) = isUp c := by
 unfold rUp isUp
 congr 1
 ·congr 1; apply propext; omega
 ·congr 1; apply propext; omega
theorem B2s (c : UInt8) : rDig (c.toNat : Int) = A1f c := by
 unfold rDig A1f
 congr 1
 ·congr 1; apply propext; omega
 ·congr 1; apply propext; omega
def okAt (big : Bool) (i : Nat) (c : UInt8) : Bool := (if big then isUp c else A3l c) || (decide (i ≠ 0) && (A1f c || decide (c.toNat = 45)))
theorem B2t (big : Bool) (s : ByteArray) : A0r big s = true ↔ 1 <= s.size /\ s.size <= 32 /\ ∀ (i : Nat) c, s.data.toList[i]? = some c -> okAt big i c = true := by
 have hlen : s.data.toList.length = s.size := rfl
 unfold A0r
 cases hl : s.data.toList with
 | nil => rw [hl] at hlen; simp at hlen; simp; omega
 | cons c r =>
  rw [hl] at hlen
  simp only [List.length_cons] at hlen
  have part : ∀ x, A2i big x = (A1f x || decide (x.toNat = 45) || if big then isUp x else A3l x) := by
   intro x; cases big <;> simp [A2i]
  have disj : ∀ x, (if big then isUp x else A3l x) = true -> A1f x = false /\ x.toNat ≠ 45 := by
   intro x hx
   cases big <;> simp [isUp, A3l, A1f] at hx ⊢ <;> omega
  simp only [Bool.and_eq_true, decide_eq_true_eq, Bool.not_eq_true', List.all_eq_true, decide_eq_false_iff_not]
  constructor
  ·rintro ⟨⟨⟨h1, h2⟩, h3⟩, h4⟩
   refine ⟨by omega, h1, fun i x hx => ?_⟩
   have hp := h4 x (List.mem_of_getElem? hx)
   rw [part] at hp
   cases i with
   | zero =>
    simp at hx; subst hx
    simp [okAt]
    simpa [h2, h3] using hp
   | succ i =>
    simp [okAt]
    simp at hp
    rcases hp with (h | h) | h
    ·exact .inr (.inl h)
    ·exact .inr (.inr h)
    ·exact .inl h
  ·rintro ⟨_, h1, h2⟩
   have h0 : (if big then isUp c else A3l c) = true := by
    have := h2 0 c rfl
    simp [okAt] at this
    cases big <;> simpa using this
   obtain ⟨d1, d2⟩ := disj c h0
   refine ⟨⟨⟨h1, d1⟩, d2⟩, fun x hx => ?_⟩
   obtain ⟨i, hi, e⟩ := List.getElem_of_mem hx
   have := h2 i x (by rw [List.getElem?_eq_getElem hi, e])
   rw [part]
   simp [okAt] at this ⊢
   rcases this with h | ⟨_, h | h⟩
   ·exact .inr h
   ·exact .inl (.inl h)
   ·exact .inl (.inr h)
theorem D4v (s : ByteArray) (j : Nat) (c : UInt8) (h : s.data.toList[j]? = some c) (ha : c.toNat < 128) : Utf8.decode s j = (c.toNat, 1) := by
 have hj : j < s.size := by have := (List.getElem?_eq_some_iff.1 h).1; simpa using this
 have e : s[j]'hj = c := by
  have := (List.getElem?_eq_some_iff.1 h).2
  show s.data[j] = c
  simpa using this
 have := decode_ascii s j hj (by rw [e]; exact ha)
 rw [e] at this
 exact this
theorem D4w (s : ByteArray) (j : Nat) (c : UInt8) (h : s.data.toList[j]? = some c) (ha : ¬ c.toNat < 128) : 128 <= (Utf8.decode s j).1 := by
 have hj : j < s.size := by have := (List.getElem?_eq_some_iff.1 h).1; simpa using this
 have e : s.get! (j + 0) = c := by
  have e1 : s[j]'hj = c := by
   have := (List.getElem?_eq_some_iff.1 h).2
   show s.data[j] = c
   simpa using this
  rw [<- e1]
  show s.get! j = _
  simp [ByteArray.get!, getElem!_pos, hj]
  rfl
 unfold Utf8.decode
 simp only [e, ha, if_false]
 repeat' split
 all_goals (first | (simp only [Utf8.runeError]; omega) | (rename_i h; simp only [ge_iff_le, decide_eq_true_eq, Bool.and_eq_true] at h; omega) | skip)
theorem D4x {H : Heap} {nx b : Nat} {s : ByteArray} {pos : Nat} (hl : Abs.look H b = some (.iter s pos)) (hp : pos < s.size) :
  hxM .next H nx [.ptr b 0] = some (.t (.tu [.v (.bool true), .v (.int .i64 pos), .v (.int .i32 (Utf8.decode s pos).1)]), upd H b (.iter s (pos + (Utf8.decode s pos).2)), nx) := by
 simp only [hxM, hl, hp, if_true]
theorem D4y {H : Heap} {nx b : Nat} {s : ByteArray} {pos : Nat} (hl : Abs.look H b = some (.iter s pos)) (hp : ¬ pos < s.size) :
  hxM .next H nx [.ptr b 0] = some (.t (.tu [.v (.bool false)]), H, nx) := by
 simp only [hxM, hl, hp, if_false]
def letF (big : Bool) : Nat := if big then 93 else 91
def letR (big : Bool) (c : Int) : Bool := if big then rUp c else rLow c
theorem E3i (big : Bool) : GOK Tryz.prog (G q) (letF big) (B8m (letR big)) := by
 cases big
 ·exact A8x C4d
 ·exact A8x C9h
noncomputable def tbF : Tbl := [(94, B8m rDig)]
noncomputable def hbF (big : Bool) : HTbl := [(letF big, hOfT (B8m (letR big)))]
theorem ctxF (big : Bool) : Ctx Tryz.prog (G q) (orh tbF (hbF big)) := (A0z.cons (A8x B6z) .nil).ctxH (.cons (E3i big).hok .nil) mixed
def SF (big : Bool) (s : ByteArray) (j : Nat) : A0b := ⟨[(16, .ptr 0 0), (1, .t (fv (letF big))), (0, .t (sv s))], [(0, .iter s j)], 1, 38⟩
theorem orcF (big : Bool) (H : Heap) (nx : Nat) (c : Int) : orcH (hbF big) (letF big) [.t (rv c)] H nx = some (.t (bv (letR big c)), H, nx) := by
 simp only [hbF, orcH_cons, if_true, D9n]
def OkTo (big : Bool) (s : ByteArray) (j : Nat) : Prop := j <= s.size /\ ∀ (i : Nat) c, i < j -> s.data.toList[i]? = some c -> okAt big i c = true
theorem B4w (big : Bool) (s : ByteArray) (hs : s.size <= 9223372036854775807) : A1k Tryz.prog (G q) 112 [sv s, fv (letF big)] (· = bv (A0r big s)) := by
 refine B8k.call rfl ?_
 unfold B0r
 have hlen : s.data.toList.length = s.size := rfl
 refine A0a (ctxF big) ?_
 simp -implicitDefEqProofs
 by_cases h0 : s.size = 0
 ·have h0' : ((s.size : Int) == 0) = true := by rw [h0]; rfl
  have hn : A0r big s = false := by
   cases h : A0r big s with
   | false => rfl
   | true => have := (B2t big s).1 h; omega
  refine A0c (ctxF big) ?_
  simp -implicitDefEqProofs [h0', hn]
 have h0' : ((s.size : Int) == 0) = false := by rw [beq_eq_false_iff_ne]; omega
 by_cases h1 : 32 < s.size
 ·have h1' : (32 : Int) < (s.size : Int) := by omega
  have hn : A0r big s = false := by
   cases h : A0r big s with
   | false => rfl
   | true => have := (B2t big s).1 h; omega
  refine A0c (ctxF big) ?_
  simp -implicitDefEqProofs [h0', h1', hn]
 have h1' : ¬ (32 : Int) < (s.size : Int) := by omega
 refine A0a (ctxF big) ?_
 simp -implicitDefEqProofs [h0', h1']
 have no : ∀ (j : Nat) c, s.data.toList[j]? = some c -> okAt big j c = false -> A0r big s = false := by
  intro j c hc hk
  cases h : A0r big s with
  | false => rfl
  | true => rw [((B2t big s).1 h).2.2 j c hc] at hk; cases hk
 refine A2g (α := Unit) (fun _ => SF big s s.size) (fun _ => A0r big s = true) (fun _ => rfl) ?_ ?_
 ·refine A0a (ctxF big) ?_
  simp -implicitDefEqProofs
  refine A0w ?_
  refine A1l (SF big s) (fun j => s.size - j) (fun j => OkTo big s j) 0 (fun _ => rfl) ⟨Nat.zero_le _, fun i c h => by omega⟩ ?_ rfl ?_
  ·refine A0e rfl rfl ?_ ?_ <;> simp -implicitDefEqProofs [SF]
  ·rintro j ⟨hj, hok⟩
   refine A0c (ctxF big) ?_
   by_cases hlt : j < s.size
   ·obtain ⟨c, hc⟩ : ∃ c, s.data.toList[j]? = some c := ⟨_, List.getElem?_eq_getElem hlt⟩
    have hnx := D4x (H := (SF big s j).H) (nx := 1) (b := 0) (s := s) (pos := j) rfl hlt
    simp only [SF] at hnx
    have cvF := fun H nx c => orcF big H nx c
    have qd := fun c => A8y rDig c
    have lr : letR big (c.toNat : Int) = (if big then isUp c else A3l c) := by
     unfold letR; cases big
     ·exact C1i c
     ·exact C6y c
    by_cases ha : c.toNat < 128
    ·have hd := D4v s j c hc ha
     rw [hd] at hnx
     have go : okAt big j c = true -> Abs.Next Tryz.prog (G q) 0 (SF big s) (fun a' => OkTo big s a' /\ s.size - a' < s.size - j) (SF big s (j + 1)) := by
      intro hk
      refine Abs.Next.mk (j + 1) ⟨⟨hlt, fun i x hi hx => ?_⟩, by omega⟩ (Sub.refl _)
      by_cases e : i = j
      ·subst e; rw [hc] at hx; injection hx with hx; subst hx; exact hk
      ·exact hok i x (by omega) hx
     have fin : ∀ s1 : A0b, Sub Tryz.prog (G q) 0 s1 (SF big s (j + 1)) -> okAt big j c = true -> Abs.Next Tryz.prog (G q) 0 (SF big s) (fun a' => OkTo big s a' /\ s.size - a' < s.size - j) s1 := by
      intro s1 h1 hk
      obtain ⟨a, h2, h3⟩ := go hk
      exact ⟨a, h2, h1.trans h3⟩
     cases hL : (if big then isUp c else A3l c : Bool) with
     | true =>
      have hk : okAt big j c = true := by simp [okAt, hL]
      rw [hL] at lr
      simp -implicitDefEqProofs [SF, hnx, extractV, cvF, lr]
      refine fin _ ?_ hk
      refine A0e rfl rfl ?_ ?_ <;> simp -implicitDefEqProofs [SF, upd]
     | false =>
      rw [hL] at lr
      by_cases hj0 : j = 0
      ·have hk : okAt big j c = false := by simp [okAt, hL, hj0]
       have hz : ((j : Int) == 0) = true := by rw [hj0]; rfl
       simp -implicitDefEqProofs [SF, hnx, extractV, cvF, lr, hz, no j c hc hk]
      ·have hz : ((j : Int) == 0) = false := by rw [beq_eq_false_iff_ne]; omega
       cases hD : A1f c with
       | true =>
        have hk : okAt big j c = true := by simp [okAt, hL, hj0, hD]
        have hD' : rDig (c.toNat : Int) = true := by rw [B2s, hD]
        simp -implicitDefEqProofs [SF, hnx, extractV, cvF, lr, hz, tbF, qd, hD']
        refine fin _ ?_ hk
        refine A0e rfl rfl ?_ ?_ <;> simp -implicitDefEqProofs [SF, upd]
       | false =>
        have hD' : rDig (c.toNat : Int) = false := by rw [B2s, hD]
        by_cases h45 : c.toNat = 45
        ·have hk : okAt big j c = true := by simp [okAt, hL, hj0, hD, h45]
         have h4 : ((c.toNat : Int) != 45) = false := by rw [h45]; rfl
         simp -implicitDefEqProofs [SF, hnx, extractV, cvF, lr, hz, tbF, qd, hD', h4]
         refine fin _ ?_ hk
         refine A0e rfl rfl ?_ ?_ <;> simp -implicitDefEqProofs [SF, upd]
        ·have hk : okAt big j c = false := by simp [okAt, hL, hj0, hD, h45]
         have h4 : ((c.toNat : Int) != 45) = true := by rw [bne_iff_ne]; omega
         simp -implicitDefEqProofs [SF, hnx, extractV, cvF, lr, hz, tbF, qd, hD', h4, no j c hc hk]
    ·have hd := D4w s j c hc ha
     obtain ⟨r, hr⟩ : ∃ r : Nat, r = (Utf8.decode s j).1 := ⟨_, rfl⟩
     rw [<- hr] at hd
     have lr : letR big (r : Int) = false := by
      unfold letR rUp rLow
      have h1 : decide ((r : Int) <= 90) = false := decide_eq_false (by omega)
      have h2 : decide ((r : Int) <= 122) = false := decide_eq_false (by omega)
      cases big <;> simp only [h1, h2, Bool.and_false, if_true, Bool.false_eq_true, if_false]
     have hD' : rDig (r : Int) = false := by
      unfold rDig
      have h1 : decide ((r : Int) <= 57) = false := decide_eq_false (by omega)
      rw [h1, Bool.and_false]
     have h4 : ((r : Int) != 45) = true := by rw [bne_iff_ne]; omega
     have hk : okAt big j c = false := by
      have h1 : isUp c = false := by unfold isUp; rw [decide_eq_false (by omega : ¬ c.toNat <= 90), Bool.and_false]
      have h2 : A3l c = false := by unfold A3l; rw [decide_eq_false (by omega : ¬ c.toNat <= 122), Bool.and_false]
      have h3 : A1f c = false := by unfold A1f; rw [decide_eq_false (by omega : ¬ c.toNat <= 57), Bool.and_false]
      have h5 : decide (c.toNat = 45) = false := decide_eq_false (by omega)
      unfold okAt
      rw [h1, h2, h3, h5]
      cases big <;> simp
     by_cases hj0 : j = 0
     ·have hz : ((j : Int) == 0) = true := by rw [hj0]; rfl
      simp -implicitDefEqProofs [SF, hnx, extractV, cvF, <- hr, lr, hz, no j c hc hk]
     ·have hz : ((j : Int) == 0) = false := by rw [beq_eq_false_iff_ne]; omega
      simp -implicitDefEqProofs [SF, hnx, extractV, cvF, <- hr, lr, hz, tbF, qd, hD', h4, no j c hc hk]
   ·have hover := D4y (H := (SF big s j).H) (nx := 1) (b := 0) (s := s) (pos := j) rfl hlt
    simp only [SF] at hover
    simp -implicitDefEqProofs [SF, hover, extractV]
    have e : j = s.size := by omega
    subst e
    refine Abs.Next.mk () ((B2t big s).2 ⟨by omega, by omega, fun i c hc => hok i c ?_ hc⟩) (A0e rfl rfl (by simp -implicitDefEqProofs) (by simp -implicitDefEqProofs))
    have := (List.getElem?_eq_some_iff.1 hc).1
    omega
 ·rintro _ hn
  refine A0c (ctxF big) ?_
  simp -implicitDefEqProofs [SF, hn]
abbrev lim : Nat := 9223372036854775807
noncomputable def gFol : List T -> Option T
 | [a, .v (.func (.func F) ⟨[]⟩ ⟨[]⟩)] => (tStr.dec a).bind fun s => if s.size <= lim then (if F = 91 then some (bv (A0r false s)) else if F = 93 then some (bv (A0r true s)) else none) else none
 | _ => none
theorem hFol : GOK Tryz.prog (G q) 112 gFol := fun args r hr => by
 unfold gFol at hr
 split at hr
 ·rename_i a F
  obtain ⟨s, hs, hr2⟩ := Option.bind_eq_some_iff.1 hr
  have e : a = sv s := Ty.is_dec hs
  subst e
  split at hr2
  ·rename_i hl
   split at hr2
   ·rename_i e; subst e; injection hr2 with hr2; subst hr2; exact B4w false s hl
   ·split at hr2
    ·rename_i e; subst e; injection hr2 with hr2; subst hr2; exact B4w true s hl
    ·cases hr2
  ·cases hr2
 ·cases hr
theorem E3j (s : ByteArray) (hs : s.size <= lim) : gFol [sv s, fv 91] = some (bv (A0r false s)) := by
 have e := Ty.dec_is (τ := tStr) (t := sv s) (a := s) rfl
 simp [gFol, e, hs]
theorem E3k (s : ByteArray) (hs : s.size <= lim) : gFol [sv s, fv 93] = some (bv (A0r true s)) := by
 have e := Ty.dec_is (τ := tStr) (t := sv s) (a := s) rfl
 simp [gFol, e, hs]
noncomputable def hbN : HTbl := [(112, hOfT gFol)]
theorem ctxN : Ctx Tryz.prog (G q) (orh [] hbN) := A0z.nil.ctxH (.cons hFol.hok .nil) mixed
theorem D4z (s : ByteArray) (hs : s.size <= lim) : A1k Tryz.prog (G q) 72 [sv s] (· = bv (A0r false s)) := by
 refine C6o.runs ctxN rfl ?_
 simp -implicitDefEqProofs [B6p, hbN, hOfT, E3j s hs]
theorem C4e (s : ByteArray) (hs : s.size <= lim) : A1k Tryz.prog (G q) 75 [sv s] (· = bv (A0r true s)) := by
 refine B8j.runs ctxN rfl ?_
 simp -implicitDefEqProofs [B0q, hbN, hOfT, E3k s hs]
noncomputable def C9i : List T -> Option T := g2 tStr C3z fun s b => if s.size <= lim then some (bv (A0r b s)) else none
theorem E5j : GOK Tryz.prog (G q) 114 C9i := A8i fun a b s c r ha hb hr => by
 have e1 : a = sv s := ha
 have e2 : b = bv c := hb
 subst e1; subst e2
 split at hr
 ·rename_i h; injection hr with hr; subst hr; exact D2a s c h
 ·cases hr
theorem C4f (s : ByteArray) (b : Bool) (hs : s.size <= lim) : C9i [sv s, bv b] = some (bv (A0r b s)) := by
 rw [C9i, A8v (τ := tStr) (σ := C3z) (x := s) (y := b) rfl rfl, if_pos hs]
noncomputable def tbN : Tbl := [(114, C9i)]
theorem E5k : Ctx Tryz.prog (G q) (orc tbN) := (A0z.cons E5j .nil).ctx mixed
theorem D2b (s : ByteArray) (hs : s.size <= lim) : A1k Tryz.prog (G q) 77 [sv s] (· = bv (A0r false s)) := by
 refine D1u.runs E5k rfl ?_
 simp -implicitDefEqProofs [B9p, tbN, C4f s false hs]
theorem C1j (s : ByteArray) (hs : s.size <= lim) : A1k Tryz.prog (G q) 78 [sv s] (· = bv (A0r true s)) := by
 refine C1f.runs E5k rfl ?_
 simp -implicitDefEqProofs [B2l, tbN, C4f s true hs]
end Go.Proofs.YtjkkgbdoeaihmaaGreatDoor
