/-
  Operations that only compute and read, further: slices of slices and strings, min and max, comparisons with nil; one function for all of them ('lightV') and its law. No statement of the program stands here.
-/
import Derived.Test.YtbiadmfmjnoecaaA3
import Derived.WalkSpells
namespace Go.Abs
set_option linter.unusedSimpArgs false
set_option linter.unusedVariables false
open Go

/-- A bound of a slice expression. -/
@[simp] def boundV (p : Option PV) (d : Nat) : Option Nat :=
  match p with
  | none => some d
  | some (.t (.v (.int _ i))) => if 0 ≤ i then some i.toNat else none
  | _ => none

theorem sliceBounds_run {P : Program} {w : World} (isSlice : Bool) (n cap : Nat) (hnc : n ≤ cap) {L : Loc} {lo hi : Option PV} {lo' hi' : Option Value} {l h : Nat}
    (hlo : ∀ p, lo = some p → ∃ u, lo' = some u ∧ RepV P L w p u) (hlo0 : lo = none → lo' = none)
    (hhi : ∀ p, hi = some p → ∃ u, hi' = some u ∧ RepV P L w p u) (hhi0 : hi = none → hi' = none)
    (el : boundV lo 0 = some l) (eh : boundV hi n = some h) (hlh : l ≤ h) (hh : h ≤ n) :
    (Instr.sliceBounds isSlice n cap lo' hi' none).run P w = .ok (l, h, cap) w := by
  have bnd : ∀ {p : PV} {u : Value} {d r y : Nat} (c : BoundsCode), RepV P L w p u → boundV (some p) d = some r → r ≤ y → (Instr.sliceBound u y c).run P w = .ok r w := by
    intro p u d r y c hr hb hy
    unfold boundV at hb
    split at hb
    · rename_i heq; cases heq
    · rename_i k i heq
      injection heq with heq
      subst heq
      simp only [RepV, RepT] at hr
      subst hr
      split at hb
      · rename_i hi
        injection hb with hb
        subst hb
        simp only [Instr.sliceBound, asIntOf, Sem.run_bind, Sem.run_pure, Result.andThen_ok]
        rw [if_pos ⟨hi, by omega⟩]
        simp
      · cases hb
    · cases hb
  cases hi with
  | none =>
    have e1 := hhi0 rfl
    subst e1
    simp only [boundV, Option.some.injEq] at eh
    subst eh
    cases lo with
    | none =>
      have e2 := hlo0 rfl
      subst e2
      simp only [boundV, Option.some.injEq] at el
      subst el
      simp [Instr.sliceBounds]
    | some p =>
      obtain ⟨u, rfl, hr⟩ := hlo p rfl
      simp [Instr.sliceBounds, bnd _ hr el hlh]
  | some q =>
    obtain ⟨v, rfl, hq⟩ := hhi q rfl
    cases lo with
    | none =>
      have e2 := hlo0 rfl
      subst e2
      simp only [boundV, Option.some.injEq] at el
      subst el
      simp [Instr.sliceBounds, bnd _ hq eh (by omega : h ≤ cap)]
    | some p =>
      obtain ⟨u, rfl, hr⟩ := hlo p rfl
      simp [Instr.sliceBounds, bnd _ hr el hlh, bnd _ hq eh (by omega : h ≤ cap)]

/-- x[lo:hi]. -/
def sliceV (P : Program) (t : TypeId) (x : PV) (lo hi : Option PV) : Option PV :=
  match x, P.underlying t with
  | .t (.v (.string s)), some .string => match boundV lo 0, boundV hi s.size with
    | some l, some h => if l ≤ h ∧ h ≤ s.size then some (.t (.v (.string (s.extract l h)))) else none
    | _, _ => none
  | .t (.v (.slice none n c)), some (.slice _) => match elemOf' P t, boundV lo 0, boundV hi n with
    | some _, some l, some h => if l = 0 ∧ h = 0 ∧ n = 0 ∧ c = 0 then some (.t (.v (.slice none 0 0))) else none
    | _, _, _ => none
  | .t (.sl n cs), some (.slice _) => match elemOf' P t, boundV lo 0, boundV hi n with
    | some (_, z), some l, some h => if l ≤ h ∧ h ≤ n then some (.t (.sl (h - l) ((cs.drop (l * z)).take ((h - l) * z)))) else none
    | _, _, _ => none
  | .row b o n z, some (.slice _) => match elemOf' P t, boundV lo 0, boundV hi n with
    | some (_, z'), some l, some h => if z' ≠ z then none else if l < h ∧ h ≤ n then some (.row b (o + l * z) (h - l) z) else if l = 0 ∧ h = 0 then some (.row b o 0 z) else if l = h ∧ h ≤ n then some (.t (.sl 0 [])) else none
    | _, _, _ => none
  | _, _ => none

theorem sliceV_run {P : Program} {G : Globs} {L : Loc} {H : Heap} {w : World} (hok : HeapOK P G L H w) {t : TypeId} {x r : PV} {lo hi : Option PV} {u : Value} {lo' hi' : Option Value}
    (hlo : ∀ p, lo = some p → ∃ u, lo' = some u ∧ RepV P L w p u) (hlo0 : lo = none → lo' = none)
    (hhi : ∀ p, hi = some p → ∃ u, hi' = some u ∧ RepV P L w p u) (hhi0 : hi = none → hi' = none)
    (h : sliceV P t x lo hi = some r) (hx : RepV P L w x u) :
    ∃ v, (Instr.sliceAt t u lo' hi' none).run P w = .ok v w ∧ RepV P L w r v := by
  unfold sliceV at h
  split at h
  · rename_i s hu
    split at h
    · rename_i l hh el eh
      split at h
      · rename_i hb
        injection h with h; subst h
        simp only [RepV, RepT] at hx
        subst hx
        have := sliceBounds_run (P := P) (w := w) false s.size s.size (Nat.le_refl _) hlo hlo0 hhi hhi0 el eh hb.1 hb.2
        refine ⟨.string (s.extract l hh), ?_, by simp only [RepV, RepT]⟩
        simp [Instr.sliceAt, Instr.slice, run_underlying hu, this]
      · cases h
    · cases h
  · rename_i n c e hu
    split at h
    · rename_i ez l hh ee el eh
      split at h
      · rename_i hb
        obtain ⟨rfl, rfl, rfl, rfl⟩ := hb
        injection h with h; subst h
        simp only [RepV, RepT] at hx
        subst hx
        obtain ⟨e', z⟩ := ez
        obtain ⟨hu', hz⟩ := elemOf'_run ee w
        have := sliceBounds_run (P := P) (w := w) true 0 0 (Nat.le_refl _) hlo hlo0 hhi hhi0 el eh (Nat.le_refl _) (Nat.le_refl _)
        refine ⟨.slice none 0 0, ?_, by simp only [RepV, RepT]⟩
        simp [Instr.sliceAt, Instr.slice, run_underlying hu', this, hz]
      · cases h
    · cases h
  · rename_i n cs e hu
    split at h
    · rename_i e' z l hh ee el eh
      split at h
      · rename_i hb
        injection h with h; subst h
        simp only [RepV, RepT] at hx
        obtain ⟨a, c, rfl, hc, hI⟩ := hx
        obtain ⟨hu', hz⟩ := elemOf'_run ee w
        have := sliceBounds_run (P := P) (w := w) true n c hc hlo hlo0 hhi hhi0 el eh hb.1 hb.2
        have hrun : (Instr.sliceAt t (.slice (some a) n c) lo' hi' none).run P w = .ok (.slice (if c = l then some a else some (a.add (l * z))) (hh - l) (c - l)) w := by
          simp [Instr.sliceAt, Instr.slice, run_underlying hu', this, hz]
        refine ⟨_, hrun, ?_⟩
        simp only [RepV, RepT]
        by_cases hcl : c = l
        · have h0 : hh - l = 0 := by omega
          rw [if_pos hcl, h0]
          exact ⟨a, c - l, rfl, Nat.zero_le _, .inl ⟨rfl, by simp⟩⟩
        · rw [if_neg hcl]
          refine ⟨a.add (l * z), c - l, rfl, by omega, ?_⟩
          rcases hI with ⟨h1, h2⟩ | ⟨hsp, hb', hr⟩
          · exact .inl ⟨by omega, by simp [h2]⟩
          · obtain ⟨b, o, sp⟩ := a
            simp only at hsp hb' hr
            subst hsp
            rw [Addr.add_lit]
            exact .inr ⟨rfl, hb', (hr.drop _).take _⟩
      · cases h
    · cases h
  · rename_i b o n z e hu
    split at h
    · rename_i e' z' l hh ee el eh
      split at h
      · cases h
      rename_i hzz
      have hzz : z' = z := by simpa using hzz
      subst hzz
      simp only [RepV] at hx
      obtain ⟨hb, hm, c, rfl, hc, hcap⟩ := hx
      obtain ⟨hu', hz⟩ := elemOf'_run ee w
      have hrun : ∀ (_ : l ≤ hh) (_ : hh ≤ n), (Instr.sliceAt t (.slice (some ⟨L.μ b, o, none⟩) n c) lo' hi' none).run P w = .ok (.slice (if c = l then some ⟨L.μ b, o, none⟩ else some ⟨L.μ b, o + l * z', none⟩) (hh - l) (c - l)) w := by
        intro h1 h2
        have := sliceBounds_run (P := P) (w := w) true n c hc hlo hlo0 hhi hhi0 el eh h1 h2
        simp [Instr.sliceAt, Instr.slice, run_underlying hu', this, hz, Addr.add_lit]
      split at h
      · rename_i hlh
        injection h with h; subst h
        refine ⟨_, hrun (by omega) hlh.2, ?_⟩
        rw [if_neg (by omega)]
        simp only [RepV]
        refine ⟨hb, hm, c - l, rfl, by omega, fun arr ty fz he => ?_⟩
        have hcc := hcap arr ty fz he
        have e1 : l * z' + (c - l) * z' = c * z' := by rw [← Nat.add_mul]; congr 1; omega
        omega
      · split at h
        · rename_i hlh
          obtain ⟨rfl, rfl⟩ := hlh
          injection h with h; subst h
          refine ⟨_, hrun (by omega) (by omega), ?_⟩
          simp only [RepV, Nat.zero_mul, Nat.add_zero, ite_self, Nat.sub_zero]
          exact ⟨hb, hm, c, rfl, by omega, hcap⟩
        · split at h
          · rename_i hlh
            obtain ⟨rfl, hle⟩ := hlh
            injection h with h; subst h
            refine ⟨_, hrun (by omega) hle, ?_⟩
            simp only [RepV, RepT, Nat.sub_self]
            by_cases hcl : c = l
            · rw [if_pos hcl]; exact ⟨_, _, rfl, Nat.zero_le _, .inl ⟨trivial, trivial⟩⟩
            · rw [if_neg hcl]; exact ⟨_, _, rfl, Nat.zero_le _, .inl ⟨trivial, trivial⟩⟩
          · cases h
    · cases h
  · cases h

end Go.Abs
