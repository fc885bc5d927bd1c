/-
  A contract over few rows holds over many: rows under other numbers, and rows beside. No statement of the program stands here.
-/
import Derived.Test.YtbiadmfmjnoecaaA19
namespace Go.Abs
set_option linter.unusedSimpArgs false
set_option linter.unusedVariables false
open Go

section
variable {P : Program} {G : Globs}

mutual
theorem ren_up {L L' : Loc} {w : World} {σ : Nat → Nat} {n : Nat} (hI : L'.I = L.I) (hμ : ∀ b, b < n → L'.μ (σ b) = L.μ b ∧ σ b < L'.nx) : ∀ (p : PV) {u : Value}, under n p = true → RepV P L w p u → RepV P L' w (ren σ p) u
  | .t x, u, _, h => by simp only [ren, RepV, hI] at h ⊢; exact h
  | .row b o m z, u, hu, h => by
    simp only [ren, RepV, under, decide_eq_true_eq] at h hu ⊢
    obtain ⟨h1, h2⟩ := hμ b hu
    rw [h1]
    exact ⟨h2, h.2⟩
  | .ptr b o, u, hu, h => by
    simp only [ren, RepV, under, decide_eq_true_eq] at h hu ⊢
    obtain ⟨h1, h2⟩ := hμ b hu
    rw [h1]
    exact ⟨h2, h.2⟩
  | .ag cs, u, hu, h => by
    simp only [ren, RepV, under] at h hu ⊢
    obtain ⟨us, e, h1, hl⟩ := h
    exact ⟨us, e, h1, renL_up hI hμ cs hu hl⟩
  | .tu cs, u, hu, h => by
    simp only [ren, RepV, under] at h hu ⊢
    obtain ⟨us, e, hl⟩ := h
    exact ⟨us, e, renL_up hI hμ cs hu hl⟩
  | .fn f a c, u, hu, h => by
    simp only [ren, RepV, under, Bool.and_eq_true] at h hu ⊢
    obtain ⟨us, vs, e, h1, h2⟩ := h
    exact ⟨us, vs, e, renL_up hI hμ a hu.1 h1, renL_up hI hμ c hu.2 h2⟩
  | .ic t x, u, hu, h => by
    simp only [ren, RepV, under] at h hu ⊢
    obtain ⟨y, e, hy⟩ := h
    exact ⟨y, e, ren_up hI hμ x hu hy⟩
  | .mp b, u, hu, h => by
    simp only [ren, RepV, under, decide_eq_true_eq] at h hu ⊢
    obtain ⟨h1, h2⟩ := hμ b hu
    rw [h1]
    exact ⟨h2, h.2⟩
  | .dead, u, _, _ => by simp only [ren, RepV]
theorem renL_up {L L' : Loc} {w : World} {σ : Nat → Nat} {n : Nat} (hI : L'.I = L.I) (hμ : ∀ b, b < n → L'.μ (σ b) = L.μ b ∧ σ b < L'.nx) : ∀ (ps : List PV) {us : List Value}, underL n ps = true → RepVL P L w ps us → RepVL P L' w (renL σ ps) us
  | [], us, _, h => by simpa only [renL, RepVL] using h
  | p :: ps, us, hu, h => by
    simp only [renL, RepVL, underL, Bool.and_eq_true] at h hu ⊢
    obtain ⟨x, xs, e, hx, hxs⟩ := h
    exact ⟨x, xs, e, ren_up hI hμ p hu.1 hx, renL_up hI hμ ps hu.2 hxs⟩
end

theorem renRow_up {L L' : Loc} {w : World} {σ : Nat → Nat} {n g : Nat} (hI : L'.I = L.I) (hμ : ∀ b, b < n → L'.μ (σ b) = L.μ b ∧ σ b < L'.nx) {x : Row} (hu : underRow n x = true) (h : RowRep P L w g x) : RowRep P L' w g (renRow σ x) := by
  cases x with
  | cells ty cs =>
    obtain ⟨arr, ha, hl, hc⟩ := h
    refine ⟨arr, ha, by rw [renL_length]; exact hl, fun j c hj => ?_⟩
    rw [renL_getElem] at hj
    obtain ⟨c0, hc0, rfl⟩ := map_opt hj
    obtain ⟨v, hv, h1, hr⟩ := hc j c0 hc0
    exact ⟨v, hv, h1, ren_up hI hμ c0 (underL_getElem hu hc0) hr⟩
  | iter t pos => exact h

/-- The numbers behind a call: those that were handed in keep theirs, new ones follow. -/
def lifted (σ : Nat → Nat) (nx NX : Nat) (b : Nat) : Nat := if b < nx then σ b else NX + (b - nx)

theorem CallP.lift {f : FuncId} {ps : List PV} {H H' : Heap} {nx nx' : Nat} {r : PV} (h : CallP P G f ps H nx r H' nx') (σ : Nat → Nat) (NX : Nat) (Hb Hb' : Heap)
    (hσ : ∀ b, b < nx → σ b < NX) (hinj : ∀ b c, b < nx → c < nx → σ b = σ c → b = c) (hle : nx ≤ nx')
    (hH : ∀ q ∈ H, look Hb (σ q.1) = some (renRow σ q.2) ∧ q.1 < nx ∧ underRow nx q.2 = true) (hps : underL nx ps = true)
    (hr : under nx' r = true) (hH' : ∀ q ∈ H', q.1 < nx' ∧ underRow nx' q.2 = true)
    (hb' : ∀ b x, look Hb' b = some x → (∃ b0 x0, look H' b0 = some x0 ∧ b = lifted σ nx NX b0 ∧ x = renRow (lifted σ nx NX) x0) ∨ (look Hb b = some x ∧ ∀ b0 x0, look H b0 = some x0 → σ b0 ≠ b)) :
    CallP P G f (renL σ ps) Hb NX (ren (lifted σ nx NX) r) Hb' (NX + (nx' - nx)) := by
  refine ⟨h.1, fun L w us hok hnx hargs => ?_⟩
  let L0 : Loc := ⟨L.I, fun b => L.μ (σ b), nx⟩
  have hok0 : HeapOK P G L0 H w := by
    refine ⟨hok.lt, fun b x hb => ?_, fun b x hb => ?_, fun b b' x x' hb hb' e => ?_, fun b x hb => (hH _ (mem_of_look hb)).2.1, hok.glob⟩
    · obtain ⟨h1, h2, h3⟩ := hH _ (mem_of_look hb)
      have := hok.rep _ _ h1
      cases x with
      | cells ty cs =>
        obtain ⟨arr, ha, hl, hc⟩ := this
        refine ⟨arr, ha, by rw [renL_length] at hl; exact hl, fun j c hj => ?_⟩
        obtain ⟨v, hv, h1v, hrv⟩ := hc j (ren σ c) (by rw [renL_getElem, hj]; rfl)
        exact ⟨v, hv, h1v, ren_rep c (underL_getElem h3 hj) hrv⟩
      | iter t pos => exact this
    · exact hok.apart _ _ (hH _ (mem_of_look hb)).1
    · exact hinj b b' (hH _ (mem_of_look hb)).2.1 (hH _ (mem_of_look hb')).2.1 (hok.inj _ _ _ _ (hH _ (mem_of_look hb)).1 (hH _ (mem_of_look hb')).1 e)
  have mine0 : ∀ g, Mine L0 H g → Mine L Hb g := fun g ⟨b, x, hb, e⟩ => ⟨σ b, _, (hH _ (mem_of_look hb)).1, e⟩
  refine (h.2 L0 w us hok0 rfl (renL_rep ps hps hargs)).mono ?_
  rintro e w' ⟨v, L1, rfl, hv, hok1, hnx1, hm1, hx1⟩
  let L' : Loc := ⟨L1.I, fun b => if b < NX then L.μ b else L1.μ (b - NX + nx), NX + (nx' - nx)⟩
  have hμ : ∀ b, b < nx' → L'.μ (lifted σ nx NX b) = L1.μ b ∧ lifted σ nx NX b < L'.nx := by
    intro b hb
    unfold lifted
    by_cases hlt : b < nx
    · rw [if_pos hlt]
      have h1 := hσ b hlt
      refine ⟨?_, by show σ b < NX + (nx' - nx); omega⟩
      show (if σ b < NX then L.μ (σ b) else _) = _
      rw [if_pos h1]
      exact (hm1.μ b hlt).symm
    · rw [if_neg hlt]
      refine ⟨?_, by show NX + (b - nx) < NX + (nx' - nx); omega⟩
      show (if NX + (b - nx) < NX then _ else L1.μ (NX + (b - nx) - NX + nx)) = _
      rw [if_neg (by omega)]
      congr 1
      omega
  have hmono : Mono L w L' w' := by
    refine ⟨hm1.keeps, by show L.nx ≤ NX + (nx' - nx); omega, fun b hb => ?_, hm1.size, hm1.shape⟩
    show (if b < NX then L.μ b else _) = _
    rw [if_pos (by omega)]
  have old : ∀ b x, look Hb b = some x → (∀ b0 x0, look H b0 = some x0 → σ b0 ≠ b) → ¬ Mine L0 H (L.μ b) := by
    intro b x hb hne ⟨b0, x0, h0, e⟩
    exact hne b0 x0 h0 (hok.inj _ _ _ _ (hH _ (mem_of_look h0)).1 hb e)
  have oldμ : ∀ b x, look Hb b = some x → L'.μ b = L.μ b := by
    intro b x hb
    have := hok.nx b x hb
    show (if b < NX then L.μ b else _) = _
    rw [if_pos (by omega)]
  have newμ : ∀ b0 x0, look H' b0 = some x0 → L'.μ (lifted σ nx NX b0) = L1.μ b0 := fun b0 x0 h0 => (hμ b0 (hH' _ (mem_of_look h0)).1).1
  refine ⟨v, L', rfl, ren_up (L := L1) (L' := L') rfl hμ r hr hv, ?_, rfl, hmono, ?_⟩
  · refine ⟨hok1.lt, fun b x hb => ?_, fun b x hb hI => ?_, fun b b2 x x2 hb hb2 e => ?_, fun b x hb => ?_, hok1.glob⟩
    · rcases hb' b x hb with ⟨b0, x0, h0, rfl, rfl⟩ | ⟨h0, hne⟩
      · rw [newμ b0 x0 h0]
        exact renRow_up (L := L1) (L' := L') rfl hμ (hH' _ (mem_of_look h0)).2 (hok1.rep b0 x0 h0)
      · rw [oldμ b x h0]
        exact (hok.rep b x h0).keep hmono (hx1.same _ (hok.rep b x h0).lt (old b x h0 hne))
    · rcases hb' b x hb with ⟨b0, x0, h0, rfl, rfl⟩ | ⟨h0, hne⟩
      · rw [newμ b0 x0 h0] at hI
        exact hok1.apart b0 x0 h0 hI
      · rw [oldμ b x h0] at hI
        rcases hx1.new _ hI with h2 | h2 | h2
        · exact hok.apart b x h0 h2
        · have := (hok.rep b x h0).lt; omega
        · exact old b x h0 hne h2
    · rcases hb' b x hb with ⟨b0, x0, h0, rfl, rfl⟩ | ⟨h0, hne⟩ <;> rcases hb' b2 x2 hb2 with ⟨c0, y0, k0, rfl, rfl⟩ | ⟨k0, kne⟩
      · rw [newμ b0 x0 h0, newμ c0 y0 k0] at e
        rw [hok1.inj b0 c0 x0 y0 h0 k0 e]
      · rw [newμ b0 x0 h0, oldμ _ _ k0] at e
        rcases hx1.mine (L.μ b2) ⟨b0, x0, h0, e⟩ with h2 | h2
        · have := (hok.rep b2 x2 k0).lt; omega
        · exact absurd h2 (old b2 x2 k0 kne)
      · rw [oldμ _ _ h0, newμ c0 y0 k0] at e
        rcases hx1.mine (L.μ b) ⟨c0, y0, k0, e.symm⟩ with h2 | h2
        · have := (hok.rep b x h0).lt; omega
        · exact absurd h2 (old b x h0 hne)
      · rw [oldμ _ _ h0, oldμ _ _ k0] at e
        exact hok.inj b b2 x x2 h0 k0 e
    · rcases hb' b x hb with ⟨b0, x0, h0, rfl, rfl⟩ | ⟨h0, hne⟩
      · exact (hμ b0 (hH' _ (mem_of_look h0)).1).2
      · have := hok.nx b x h0
        show b < NX + (nx' - nx)
        omega
  · refine ⟨hx1.size, fun g hg hm => hx1.same g hg (fun h2 => hm (mine0 g h2)), hx1.more, fun g hg => ?_, fun g ⟨b, x, hb, e⟩ => ?_, hx1.shape, hx1.outer⟩
    · rcases hx1.new g hg with h2 | h2 | h2
      · exact .inl h2
      · exact .inr (.inl h2)
      · exact .inr (.inr (mine0 g h2))
    · rcases hb' b x hb with ⟨b0, x0, h0, rfl, rfl⟩ | ⟨h0, hne⟩
      · rw [newμ b0 x0 h0] at e
        rcases hx1.mine g ⟨b0, x0, h0, e⟩ with h2 | h2
        · exact .inl h2
        · exact .inr (mine0 g h2)
      · rw [oldμ _ _ h0] at e
        exact .inr ⟨b, x, h0, e⟩

/-- One row of trees is handed in by its pointer, and other trees; the row changes, nothing else. -/
theorem CallP.lift1 {f : FuncId} {ty : TypeId} {cs cs' : List T} {args : List T} {r : T} (h : CallP P G f (.ptr 0 0 :: args.map .t) [(0, .cells ty (cs.map .t))] 1 (.t r) [(0, .cells ty (cs'.map .t))] 1)
    {b NX : Nat} {Hb : Heap} (hb : look Hb b = some (.cells ty (cs.map .t))) (hlt : b < NX) :
    CallP P G f (.ptr b 0 :: args.map .t) Hb NX (.t r) (upd Hb b (.cells ty (cs'.map .t))) NX := by
  have rt : ∀ (σ : Nat → Nat) (l : List T), renL σ (l.map .t) = l.map .t := by
    intro σ l
    induction l with
    | nil => rfl
    | cons x l ih => simp only [List.map_cons, renL, ren, ih]
  have ut : ∀ (n : Nat) (l : List T), underL n (l.map .t) = true := by
    intro n l
    induction l with
    | nil => rfl
    | cons x l ih => simp only [List.map_cons, underL, under, ih, Bool.and_self]
  have := h.lift (fun _ => b) NX Hb (upd Hb b (.cells ty (cs'.map .t))) (fun _ _ => hlt) (fun x y hx hy _ => by omega) (Nat.le_refl _) (fun q hq => by
    simp only [List.mem_singleton] at hq
    subst hq
    simp only [renRow, rt, underRow, ut]
    exact ⟨hb, by omega, trivial⟩) (by simp only [underL, under, ut]; rfl) rfl (fun q hq => by
    simp only [List.mem_singleton] at hq
    subst hq
    exact ⟨by omega, ut _ _⟩) (fun c x hc => by
    rw [look_upd] at hc
    split at hc
    · rename_i e
      subst e
      left
      refine ⟨0, _, rfl, by simp [lifted], ?_⟩
      rw [hb] at hc
      simp only [Option.map_some, Option.some.injEq] at hc
      simp only [renRow, rt]
      exact hc.symm
    · rename_i e
      right
      refine ⟨hc, fun b0 x0 _ e2 => e e2.symm⟩)
  simp only [renL, ren, rt, Nat.sub_self, Nat.add_zero] at this
  exact this
end
end Go.Abs
