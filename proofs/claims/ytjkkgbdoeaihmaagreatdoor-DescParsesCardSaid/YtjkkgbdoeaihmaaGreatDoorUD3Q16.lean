/-
 Auxiliary facts. No statement of the program stands here.
-/
import Derived.Test.YtjkkgbdoeaihmaaGreatDoorUD3Q12
namespace Go.Abs
set_option linter.unusedSimpArgs false
set_option linter.unusedVariables false
open Go
section
variable {P : Program} {G : A0t}
mutual
theorem C9c {L L' : Loc} {w : World} {σ : Nat -> Nat} {n : Nat} (hI : L'.I = L.I) (hμ : ∀ b, b < n -> L'.μ (σ b) = L.μ b /\ σ b < L'.nx) : ∀ (p : PV) {u : Value}, under n p = true -> RepV P L w p u -> RepV P L' w (ren σ p) u
 | .t x, u, _, h => by simp only [ren, RepV, hI] at h ⊢; exact h
 | .row b o m z, u, hu, h => by
  simp only [ren, RepV, under, decide_eq_true_eq] at h hu ⊢
  obtain ⟨h1, h2⟩ := hμ b hu
  rw [h1]
  exact ⟨h2, h.2⟩
 | .ptr b o, u, hu, h => by
  simp only [ren, RepV, under, decide_eq_true_eq] at h hu ⊢
  obtain ⟨h1, h2⟩ := hμ b hu
  rw [h1]
  exact ⟨h2, h.2⟩
 | .ag cs, u, hu, h => by
  simp only [ren, RepV, under] at h hu ⊢
  obtain ⟨us, e, h1, hl⟩ := h
  exact ⟨us, e, h1, B6s hI hμ cs hu hl⟩
 | .tu cs, u, hu, h => by
  simp only [ren, RepV, under] at h hu ⊢
  obtain ⟨us, e, hl⟩ := h
  exact ⟨us, e, B6s hI hμ cs hu hl⟩
 | .fn f a c, u, hu, h => by
  simp only [ren, RepV, under, Bool.and_eq_true] at h hu ⊢
  obtain ⟨us, vs, e, h1, h2⟩ := h
  exact ⟨us, vs, e, B6s hI hμ a hu.1 h1, B6s hI hμ c hu.2 h2⟩
 | .ic t x, u, hu, h => by
  simp only [ren, RepV, under] at h hu ⊢
  obtain ⟨y, e, hy⟩ := h
  exact ⟨y, e, C9c hI hμ x hu hy⟩
 | .mp b, u, hu, h => by
  simp only [ren, RepV, under, decide_eq_true_eq] at h hu ⊢
  obtain ⟨h1, h2⟩ := hμ b hu
  rw [h1]
  exact ⟨h2, h.2⟩
 | .dead, u, _, _ => by simp only [ren, RepV]
theorem B6s {L L' : Loc} {w : World} {σ : Nat -> Nat} {n : Nat} (hI : L'.I = L.I) (hμ : ∀ b, b < n -> L'.μ (σ b) = L.μ b /\ σ b < L'.nx) : ∀ (ps : List PV) {us : List Value}, A0x n ps = true -> A0q P L w ps us -> A0q P L' w (renL σ ps) us
 | [], us, _, h => by simpa only [renL, A0q] using h
 | p :: ps, us, hu, h => by
  simp only [renL, A0q, A0x, Bool.and_eq_true] at h hu ⊢
  obtain ⟨x, xs, e, hx, hxs⟩ := h
  exact ⟨x, xs, e, C9c hI hμ p hu.1 hx, B6s hI hμ ps hu.2 hxs⟩
end
theorem D4r {L L' : Loc} {w : World} {σ : Nat -> Nat} {n g : Nat} (hI : L'.I = L.I) (hμ : ∀ b, b < n -> L'.μ (σ b) = L.μ b /\ σ b < L'.nx) {x : Row} (hu : A0m n x = true) (h : A5r P L w g x) : A5r P L' w g (A0v σ x) := by
 cases x with
 | cells ty cs =>
  obtain ⟨arr, ha, hl, hc⟩ := h
  refine ⟨arr, ha, by rw [A6t]; exact hl, fun j c hj => ?_⟩
  rw [A5t] at hj
  obtain ⟨c0, hc0, rfl⟩ := A0i hj
  obtain ⟨v, hv, h1, hr⟩ := hc j c0 hc0
  exact ⟨v, hv, h1, C9c hI hμ c0 (A4c hu hc0) hr⟩
 | iter t pos => exact h
def A1n (σ : Nat -> Nat) (nx NX : Nat) (b : Nat) : Nat := if b < nx then σ b else NX + (b - nx)
theorem A1d.lift {f : FuncId} {ps : List PV} {H H' : Heap} {nx nx' : Nat} {r : PV} (h : A1d P G f ps H nx r H' nx') (σ : Nat -> Nat) (NX : Nat) (Hb Hb' : Heap)
  (hσ : ∀ b, b < nx -> σ b < NX) (hinj : ∀ b c, b < nx -> c < nx -> σ b = σ c -> b = c) (hle : nx <= nx')
  (hH : ∀ q ∈ H, look Hb (σ q.1) = some (A0v σ q.2) /\ q.1 < nx /\ A0m nx q.2 = true) (hps : A0x nx ps = true)
  (hr : under nx' r = true) (hH' : ∀ q ∈ H', q.1 < nx' /\ A0m nx' q.2 = true)
  (hb' : ∀ b x, look Hb' b = some x -> (∃ b0 x0, look H' b0 = some x0 /\ b = A1n σ nx NX b0 /\ x = A0v (A1n σ nx NX) x0) \/ (look Hb b = some x /\ ∀ b0 x0, look H b0 = some x0 -> σ b0 ≠ b)) :
  A1d P G f (renL σ ps) Hb NX (ren (A1n σ nx NX) r) Hb' (NX + (nx' - nx)) := by
 refine ⟨h.1, fun L w us hok hnx hargs => ?_⟩
 let L0 : Loc := ⟨L.I, fun b => L.μ (σ b), nx⟩
 have hok0 : A1h P G L0 H w := by
  refine ⟨hok.lt, fun b x hb => ?_, fun b x hb => ?_, fun b b' x x' hb hb' e => ?_, fun b x hb => (hH _ (A0f hb)).2.1, hok.glob⟩
  ·obtain ⟨h1, h2, h3⟩ := hH _ (A0f hb)
   have := hok.rep _ _ h1
   cases x with
   | cells ty cs =>
    obtain ⟨arr, ha, hl, hc⟩ := this
    refine ⟨arr, ha, by rw [A6t] at hl; exact hl, fun j c hj => ?_⟩
    obtain ⟨v, hv, h1v, hrv⟩ := hc j (ren σ c) (by rw [A5t, hj]; rfl)
    exact ⟨v, hv, h1v, B3r c (A4c h3 hj) hrv⟩
   | iter t pos => exact this
  ·exact hok.apart _ _ (hH _ (A0f hb)).1
  ·exact hinj b b' (hH _ (A0f hb)).2.1 (hH _ (A0f hb')).2.1 (hok.inj _ _ _ _ (hH _ (A0f hb)).1 (hH _ (A0f hb')).1 e)
 have mine0 : ∀ g, Mine L0 H g -> Mine L Hb g := fun g ⟨b, x, hb, e⟩ => ⟨σ b, _, (hH _ (A0f hb)).1, e⟩
 refine (h.2 L0 w us hok0 rfl (A8t ps hps hargs)).mono ?_
 rintro e w' ⟨v, L1, rfl, hv, hok1, hnx1, hm1, hx1⟩
 let L' : Loc := ⟨L1.I, fun b => if b < NX then L.μ b else L1.μ (b - NX + nx), NX + (nx' - nx)⟩
 have hμ : ∀ b, b < nx' -> L'.μ (A1n σ nx NX b) = L1.μ b /\ A1n σ nx NX b < L'.nx := by
  intro b hb
  unfold A1n
  by_cases hlt : b < nx
  ·rw [if_pos hlt]
   have h1 := hσ b hlt
   refine ⟨?_, by show σ b < NX + (nx' - nx); omega⟩
   show (if σ b < NX then L.μ (σ b) else _) = _
   rw [if_pos h1]
   exact (hm1.μ b hlt).symm
  ·rw [if_neg hlt]
   refine ⟨?_, by show NX + (b - nx) < NX + (nx' - nx); omega⟩
   show (if NX + (b - nx) < NX then _ else L1.μ (NX + (b - nx) - NX + nx)) = _
   rw [if_neg (by omega)]
   congr 1
   omega
 have hmono : Mono L w L' w' := by
  refine ⟨hm1.keeps, by show L.nx <= NX + (nx' - nx); omega, fun b hb => ?_, hm1.size, hm1.shape⟩
  show (if b < NX then L.μ b else _) = _
  rw [if_pos (by omega)]
 have old : ∀ b x, look Hb b = some x -> (∀ b0 x0, look H b0 = some x0 -> σ b0 ≠ b) -> ¬ Mine L0 H (L.μ b) := by
  intro b x hb hne ⟨b0, x0, h0, e⟩
  exact hne b0 x0 h0 (hok.inj _ _ _ _ (hH _ (A0f h0)).1 hb e)
 have oldμ : ∀ b x, look Hb b = some x -> L'.μ b = L.μ b := by
  intro b x hb
  have := hok.nx b x hb
  show (if b < NX then L.μ b else _) = _
  rw [if_pos (by omega)]
 have newμ : ∀ b0 x0, look H' b0 = some x0 -> L'.μ (A1n σ nx NX b0) = L1.μ b0 := fun b0 x0 h0 => (hμ b0 (hH' _ (A0f h0)).1).1
 refine ⟨v, L', rfl, C9c (L := L1) (L' := L') rfl hμ r hr hv, ?_, rfl, hmono, ?_⟩
 ·refine ⟨hok1.lt, fun b x hb => ?_, fun b x hb hI => ?_, fun b b2 x x2 hb hb2 e => ?_, fun b x hb => ?_, hok1.glob⟩
  ·rcases hb' b x hb with ⟨b0, x0, h0, rfl, rfl⟩ | ⟨h0, hne⟩
   ·rw [newμ b0 x0 h0]
    exact D4r (L := L1) (L' := L') rfl hμ (hH' _ (A0f h0)).2 (hok1.rep b0 x0 h0)
   ·rw [oldμ b x h0]
    exact (hok.rep b x h0).keep hmono (hx1.same _ (hok.rep b x h0).lt (old b x h0 hne))
  ·rcases hb' b x hb with ⟨b0, x0, h0, rfl, rfl⟩ | ⟨h0, hne⟩
   ·rw [newμ b0 x0 h0] at hI
    exact hok1.apart b0 x0 h0 hI
   ·rw [oldμ b x h0] at hI
    rcases hx1.new _ hI with h2 | h2 | h2
    ·exact hok.apart b x h0 h2
    ·have := (hok.rep b x h0).lt; omega
    ·exact old b x h0 hne h2
  ·rcases hb' b x hb with ⟨b0, x0, h0, rfl, rfl⟩ | ⟨h0, hne⟩ <;> rcases hb' b2 x2 hb2 with ⟨c0, y0, k0, rfl, rfl⟩ | ⟨k0, kne⟩
   ·rw [newμ b0 x0 h0, newμ c0 y0 k0] at e
    rw [hok1.inj b0 c0 x0 y0 h0 k0 e]
   ·rw [newμ b0 x0 h0, oldμ _ _ k0] at e
    rcases hx1.mine (L.μ b2) ⟨b0, x0, h0, e⟩ with h2 | h2
    ·have := (hok.rep b2 x2 k0).lt; omega
    ·exact absurd h2 (old b2 x2 k0 kne)
   ·rw [oldμ _ _ h0, newμ c0 y0 k0] at e
    rcases hx1.mine (L.μ b) ⟨c0, y0, k0, e.symm⟩ with h2 | h2
    ·have := (hok.rep b x h0).lt; omega
    ·exact absurd h2 (old b x h0 hne)
   ·rw [oldμ _ _ h0, oldμ _ _ k0] at e
    exact hok.inj b b2 x x2 h0 k0 e
  ·rcases hb' b x hb with ⟨b0, x0, h0, rfl, rfl⟩ | ⟨h0, hne⟩
   ·exact (hμ b0 (hH' _ (A0f h0)).1).2
   ·have := hok.nx b x h0
    show b < NX + (nx' - nx)
    omega
 ·refine ⟨hx1.size, fun g hg hm => hx1.same g hg (fun h2 => hm (mine0 g h2)), hx1.more, fun g hg => ?_, fun g ⟨b, x, hb, e⟩ => ?_, hx1.shape, hx1.outer⟩
  ·rcases hx1.new g hg with h2 | h2 | h2
   ·exact .inl h2
   ·exact .inr (.inl h2)
   ·exact .inr (.inr (mine0 g h2))
  ·rcases hb' b x hb with ⟨b0, x0, h0, rfl, rfl⟩ | ⟨h0, hne⟩
   ·rw [newμ b0 x0 h0] at e
    rcases hx1.mine g ⟨b0, x0, h0, e⟩ with h2 | h2
    ·exact .inl h2
    ·exact .inr (mine0 g h2)
   ·rw [oldμ _ _ h0] at e
    exact .inr ⟨b, x, h0, e⟩
theorem A1d.lift1 {f : FuncId} {ty : TypeId} {cs cs' : List T} {args : List T} {r : T} (h : A1d P G f (.ptr 0 0 :: args.map .t) [(0, .cells ty (cs.map .t))] 1 (.t r) [(0, .cells ty (cs'.map .t))] 1)
  {b NX : Nat} {Hb : Heap} (hb : look Hb b = some (.cells ty (cs.map .t))) (hlt : b < NX) :
  A1d P G f (.ptr b 0 :: args.map .t) Hb NX (.t r) (upd Hb b (.cells ty (cs'.map .t))) NX := by
 have rt : ∀ (σ : Nat -> Nat) (l : List T), renL σ (l.map .t) = l.map .t := by
  intro σ l
  induction l with
  | nil => rfl
  | cons x l ih => simp only [List.map_cons, renL, ren, ih]
 have ut : ∀ (n : Nat) (l : List T), A0x n (l.map .t) = true := by
  intro n l
  induction l with
  | nil => rfl
  | cons x l ih => simp only [List.map_cons, A0x, under, ih, Bool.and_self]
 have := h.lift (fun _ => b) NX Hb (upd Hb b (.cells ty (cs'.map .t))) (fun _ _ => hlt) (fun x y hx hy _ => by omega) (Nat.le_refl _) (fun q hq => by
  simp only [List.mem_singleton] at hq
  subst hq
  simp only [A0v, rt, A0m, ut]
  exact ⟨hb, by omega, trivial⟩) (by simp only [A0x, under, ut]; rfl) rfl (fun q hq => by
  simp only [List.mem_singleton] at hq
  subst hq
  exact ⟨by omega, ut _ _⟩) (fun c x hc => by
  rw [A0g] at hc
  split at hc
  ·rename_i e
   subst e
   left
   refine ⟨0, _, rfl, by simp [A1n], ?_⟩
   rw [hb] at hc
   simp only [Option.map_some, Option.some.injEq] at hc
   simp only [A0v, rt]
   exact hc.symm
  ·rename_i e
   right
   refine ⟨hc, fun b0 x0 _ e2 => e e2.symm⟩)
 simp only [renL, ren, rt, Nat.sub_self, Nat.add_zero] at this
 exact this
end
structure Ty (α : Type) where
 is : T -> α -> Prop
 uniq : ∀ t a b, is t a -> is t b -> a = b
noncomputable def Ty.dec {α : Type} (τ : Ty α) (t : T) : Option α :=
 open Classical in if h : ∃ a, τ.is t a then some h.choose else none
theorem Ty.dec_is {α : Type} {τ : Ty α} {t : T} {a : α} (h : τ.is t a) : τ.dec t = some a := by
 unfold Ty.dec
 have hx : ∃ a, τ.is t a := ⟨a, h⟩
 rw [dif_pos hx]
 rw [τ.uniq t _ _ hx.choose_spec h]
theorem Ty.is_dec {α : Type} {τ : Ty α} {t : T} {a : α} (h : τ.dec t = some a) : τ.is t a := by
 unfold Ty.dec at h
 split at h
 ·rename_i hx
  injection h with h
  subst h
  exact hx.choose_spec
 ·cases h
abbrev iv (n : Int) : T := .v (.int .i64 n)
abbrev bv (b : Bool) : T := .v (.bool b)
abbrev sv (s : ByteArray) : T := .v (.string s)
abbrev nilS : T := .v (.slice none 0 0)
def tInt : Ty Int := ⟨fun t n => t = iv n, fun t a b h h' => by rw [h] at h'; injection h' with h'; injection h'⟩
def C3z : Ty Bool := ⟨fun t n => t = bv n, fun t a b h h' => by rw [h] at h'; injection h' with h'; injection h'⟩
def tStr : Ty ByteArray := ⟨fun t n => t = sv n, fun t a b h h' => by rw [h] at h'; injection h' with h'; injection h'⟩
structure Enc (α : Type) where
 z : Nat
 enc : α -> List T
 len : ∀ a, (enc a).length = z
 pos : 0 < z
 inj : ∀ a b, enc a = enc b -> a = b
def slT {α : Type} (e : Enc α) (l : List α) : T := .sl l.length (l.flatMap e.enc)
def IsS {α : Type} (e : Enc α) (t : T) (l : List α) : Prop := (t = nilS /\ l = []) \/ t = slT e l
theorem B6t {α : Type} (e : Enc α) : ∀ (l m : List α), l.length = m.length -> l.flatMap e.enc = m.flatMap e.enc -> l = m
 | [], [], _, _ => rfl
 | [], _ :: _, h, _ => by simp at h
 | _ :: _, [], h, _ => by simp at h
 | a :: l, b :: m, h, he => by
  simp only [List.flatMap_cons] at he
  have h1 := List.append_inj he (by rw [e.len, e.len])
  rw [e.inj a b h1.1, B6t e l m (by simpa using h) h1.2]
def tSl {α : Type} (e : Enc α) : Ty (List α) := ⟨IsS e, fun t a b h h' => by
 rcases h with ⟨rfl, rfl⟩ | rfl
 ·rcases h' with ⟨_, rfl⟩ | h'
  ·rfl
  ·cases h'
 ·rcases h' with ⟨h', _⟩ | h'
  ·cases h'
  ·unfold slT at h'
   injection h' with h1 h2
   exact B6t e a b h1 h2⟩
def eInt : Enc Int := ⟨1, fun n => [iv n], fun _ => rfl, by omega, fun a b h => by injection h with h; injection h with h; injection h⟩
def eStr : Enc ByteArray := ⟨1, fun n => [sv n], fun _ => rfl, by omega, fun a b h => by injection h with h; injection h with h; injection h⟩
section
variable {α : Type} {e : Enc α} {t : T} {l : List α}
theorem IsS.len (h : IsS e t l) : A2f (.t t) = some (.t (iv (l.length : Int))) := by
 rcases h with ⟨rfl, rfl⟩ | rfl <;> rfl
def rest (e : Enc α) (l : List α) (i : Nat) : List T := (l.drop (i + 1)).flatMap e.enc
theorem C4a (e : Enc α) : ∀ (l : List α) (i : Nat) (x : α), l[i]? = some x -> (l.flatMap e.enc).drop (i * e.z) = e.enc x ++ rest e l i
 | [], i, x, h => by simp at h
 | a :: l, 0, x, h => by
  simp at h; subst h
  simp [rest]
 | a :: l, i + 1, x, h => by
  have ih := C4a e l i x (by simpa using h)
  rw [List.flatMap_cons, Nat.succ_mul, Nat.add_comm, <- List.drop_drop, List.drop_left' (e.len a), ih]
  simp [rest]
theorem IsS.iaddr (h : IsS e t l) {i : Nat} {x : α} (hx : l[i]? = some x) (k : IntKind) : A4v e.z (.t t) (.t (.v (.int k (i : Int)))) = some (.t (.pt (e.enc x ++ rest e l i))) := by
 have hi : i < l.length := (List.getElem?_eq_some_iff.1 hx).1
 rcases h with ⟨rfl, rfl⟩ | rfl
 ·simp at hi
 ·simp only [A4v, slT]
  rw [if_pos ⟨by omega, by omega⟩, Int.toNat_natCast, C4a e l i x hx]
end
noncomputable def g1 {α : Type} (τ : Ty α) (f : α -> Option T) : List T -> Option T
 | [a] => (τ.dec a).bind f
 | _ => none
noncomputable def g2 {α β : Type} (τ : Ty α) (σ : Ty β) (f : α -> β -> Option T) : List T -> Option T
 | [a, b] => (τ.dec a).bind fun x => (σ.dec b).bind fun y => f x y
 | _ => none
noncomputable def g3 {α β γ : Type} (τ : Ty α) (σ : Ty β) (ρ : Ty γ) (f : α -> β -> γ -> Option T) : List T -> Option T
 | [a, b, c] => (τ.dec a).bind fun x => (σ.dec b).bind fun y => (ρ.dec c).bind fun z => f x y z
 | _ => none
noncomputable def g4 {α β γ δ : Type} (τ : Ty α) (σ : Ty β) (ρ : Ty γ) (π : Ty δ) (f : α -> β -> γ -> δ -> Option T) : List T -> Option T
 | [a, b, c, d] => (τ.dec a).bind fun x => (σ.dec b).bind fun y => (ρ.dec c).bind fun z => (π.dec d).bind fun u => f x y z u
 | _ => none
section
variable {P : Program} {G : A0t} {F : FuncId} {α β γ δ : Type} {τ : Ty α} {σ : Ty β} {ρ : Ty γ} {π : Ty δ}
theorem B2o {f : α -> Option T} (h : ∀ a x r, τ.is a x -> f x = some r -> A1k P G F [a] (· = r)) : GOK P G F (g1 τ f) := by
 intro args r e
 unfold g1 at e
 split at e
 ·obtain ⟨x, hx, e⟩ := Option.bind_eq_some_iff.1 e
  exact h _ x r (Ty.is_dec hx) e
 ·cases e
theorem B2p {f : α -> Option T} {a : T} {x : α} (h : τ.is a x) : g1 τ f [a] = f x := by
 simp only [g1, Ty.dec_is h, Option.bind_some]
theorem A8i {f : α -> β -> Option T} (h : ∀ a b x y r, τ.is a x -> σ.is b y -> f x y = some r -> A1k P G F [a, b] (· = r)) : GOK P G F (g2 τ σ f) := by
 intro args r e
 unfold g2 at e
 split at e
 ·obtain ⟨x, hx, e⟩ := Option.bind_eq_some_iff.1 e
  obtain ⟨y, hy, e⟩ := Option.bind_eq_some_iff.1 e
  exact h _ _ x y r (Ty.is_dec hx) (Ty.is_dec hy) e
 ·cases e
theorem A8v {f : α -> β -> Option T} {a b : T} {x : α} {y : β} (h : τ.is a x) (h' : σ.is b y) : g2 τ σ f [a, b] = f x y := by
 simp only [g2, Ty.dec_is h, Ty.dec_is h', Option.bind_some]
end
section
variable {α : Type}
def rowP (e : Enc α) (b : Nat) : List α -> PV
 | [] => .t nilS
 | l => .row b 0 l.length e.z
def rowH (e : Enc α) (ty b : Nat) : List α -> Heap
 | [] => []
 | l => [(b, .cells ty ((l.flatMap e.enc).map .t))]
def A2h (e : Enc α) : List α -> T
 | [] => nilS
 | l => slT e l
def B8l (b : Nat) : List α -> List Nat
 | [] => []
 | _ => [b]
theorem IsS.tree (e : Enc α) (l : List α) : IsS e (A2h e l) l := by
 cases l with
 | nil => exact .inl ⟨rfl, rfl⟩
 | cons x r => exact .inr rfl
theorem A6x (e : Enc α) : ∀ l : List α, (l.flatMap e.enc).length = l.length * e.z
 | [] => by simp
 | a :: l => by rw [List.flatMap_cons, List.length_append, e.len, A6x e l, List.length_cons, Nat.succ_mul, Nat.add_comm]
theorem A1c (e : Enc α) (σ : Nat -> Nat) (b : Nat) (l : List α) : ren σ (rowP e b l) = rowP e (σ b) l := by cases l <;> rfl
theorem A0o (e : Enc α) (n b : Nat) (l : List α) (h : b < n) : under n (rowP e b l) = true := by
 cases l with
 | nil => rfl
 | cons x r => simp [rowP, under, h]
end
section
variable {α : Type} {P : Program} {G : A0t} {B : Nat}
def A3h (e : Enc α) (ty : Nat) (l : List α) : Row := .cells ty ((l.flatMap e.enc).map .t)
def A0n (e : Enc α) (ty : Nat) (H : Heap) (b : Nat) (l : List α) : Prop := l = [] \/ look H b = some (A3h e ty l)
theorem A0n.nil (e : Enc α) (ty : Nat) (H : Heap) (b : Nat) : A0n e ty H b [] := .inl rfl
theorem A0n.cons {e : Enc α} {ty : Nat} {H : Heap} {b : Nat} {l : List α} (h : A0n e ty H b l) {k : Nat} {r : Row} (hk : k ≠ b) : A0n e ty ((k, r) :: H) b l :=
 h.imp id fun h => by rw [look_cons, if_neg hk]; exact h
theorem A0n.head (e : Enc α) (ty : Nat) (H : Heap) (b : Nat) (l : List α) : A0n e ty (rowH e ty b l ++ H) b l := by
 cases l with
 | nil => exact .inl rfl
 | cons x r => right; simp [rowH, A3h]
theorem A0n.head' (e : Enc α) (ty b : Nat) (l : List α) : A0n e ty (rowH e ty b l) b l := by
 have h := A0n.head e ty [] b l
 rwa [List.append_nil] at h
def appH (e : Enc α) (ty : Nat) (H : Heap) (nx b : Nat) (l m : List α) : Heap :=
 if (l ++ m).isEmpty then H else (nx, A3h e ty (l ++ m)) :: (if l.isEmpty then H else rem H b)
def appN (nx : Nat) (l m : List α) : Nat := if (l ++ m).isEmpty then nx else nx + 1
theorem E3e {e : Enc α} {ty by' : Nat} {H : Heap} {nx b : Nat} {l m : List α} {src : PV} (h : A0n e ty H b l) (hs : srcP H e.z src = some (m.length, (m.flatMap e.enc).map .t))
  (hb : (l.length + m.length) * by' <= 140737488355328) (hb2 : l.length + m.length <= 9223372036854775807) :
  appM ty e.z by' H nx (rowP e b l) src = some (rowP e nx (l ++ m), appH e ty H nx b l m, appN nx l m) := by
 cases l with
 | nil =>
  cases m with
  | nil => simp [appM, hs, rowP, appH, appN]
  | cons y m =>
   simp only [List.length_nil, Nat.zero_add] at hb hb2
   have h0 : ¬ (y :: m).length = 0 := by simp
   simp only [appM, hs, rowP, List.nil_append, appH, appN, List.isEmpty_cons, List.isEmpty_nil, Bool.false_eq_true, if_false, if_true, and_self, h0, hb, hb2, A3h]
 | cons x l =>
  rcases h with h | h
  ·cases h
  ·have hl : (((x :: l).flatMap e.enc).map PV.t).length = (x :: l).length * e.z := by rw [List.length_map, A6x]
   simp only [appM, hs, rowP, h, A3h, hl, true_and, if_pos (And.intro hb hb2), List.cons_append, appH, appN, List.isEmpty_cons, Bool.false_eq_true, if_false]
   simp
   omega
theorem D4s {e : Enc α} {ty : Nat} {H : Heap} {nx b : Nat} {l m : List α} {c : Nat} (hc : c ≠ nx) (hb : c ≠ b) : look (appH e ty H nx b l m) c = look H c := by
 unfold appH
 split
 ·rfl
 ·rw [look_cons, if_neg (Ne.symm hc)]
  split
  ·rfl
  ·rw [A1s, if_neg hb]
theorem A0n.app {e : Enc α} {ty : Nat} {H : Heap} {nx b : Nat} {l m : List α} : A0n e ty (appH e ty H nx b l m) nx (l ++ m) := by
 unfold appH
 split
 ·rename_i h; left; simpa using h
 ·right; rw [look_cons, if_pos rfl]
theorem A0n.toT {e : Enc α} {ty : Nat} {H : Heap} {b : Nat} {l : List α} (h : A0n e ty H b l) : toT H (rowP e b l) = some (A2h e l, B8l b l) := by
 cases l with
 | nil => rfl
 | cons x r =>
  rcases h with h | h
  ·cases h
  ·have hl : (((x :: r).flatMap e.enc).map PV.t).length = (x :: r).length * e.z := by rw [List.length_map, A6x]
   have tk : List.take ((x :: r).length * e.z) (((x :: r).flatMap e.enc).map PV.t) = ((x :: r).flatMap e.enc).map PV.t := List.take_of_length_le (by rw [hl]; exact Nat.le_refl _)
   simp only [rowP, Abs.toT, h, A3h, List.drop_zero, Nat.zero_add, hl, Nat.le_refl, if_true, tk, allT_map_t, Option.map_some]
   rfl
theorem A7k (e : Enc α) (b : Nat) (l : List α) : A2f (rowP e b l) = some (.t (iv (l.length : Int))) := by cases l <;> rfl
theorem A7w {e : Enc α} {H : Heap} {b ty : Nat} (x : α) (h : look H b = some (.cells ty ((e.enc x).map .t))) : srcP H e.z (.row b 0 1 e.z) = some ([x].length, ([x].flatMap e.enc).map .t) := by
 have hl : ((e.enc x).map PV.t).length = e.z := by rw [List.length_map, e.len]
 have tk : List.take e.z ((e.enc x).map PV.t) = (e.enc x).map PV.t := List.take_of_length_le (by rw [hl]; exact Nat.le_refl _)
 simp [srcP, h, e.len, tk]
theorem C9d {e : Enc α} {H : Heap} {t : T} {l : List α} (h : IsS e t l) : srcP H e.z (.t t) = some (l.length, (l.flatMap e.enc).map .t) := by
 rcases h with ⟨rfl, rfl⟩ | rfl
 ·rfl
 ·simp only [srcP, slT, A6x, if_true]
theorem A1e (σ : Nat -> Nat) (e : Enc α) (ty : Nat) (l : List α) : A0v σ (A3h e ty l) = A3h e ty l := by
 have : ∀ m : List T, renL σ (m.map .t) = m.map .t := by
  intro m
  induction m with
  | nil => rfl
  | cons x m ih => simp only [List.map_cons, renL, ren, ih]
 simp only [A3h, A0v, this]
theorem A0y (n : Nat) (e : Enc α) (ty : Nat) (l : List α) : A0m n (A3h e ty l) = true := by
 have : ∀ m : List T, A0x n (m.map .t) = true := by
  intro m
  induction m with
  | nil => rfl
  | cons x m ih => simp only [List.map_cons, A0x, under, ih, Bool.and_self]
 simp only [A3h, A0m, this]
theorem A2p {e : Enc α} {ty b : Nat} {l : List α} {q : Nat × Row} (h : q ∈ rowH e ty b l) : l ≠ [] /\ q = (b, A3h e ty l) := by
 cases l with
 | nil => simp [rowH] at h
 | cons x r => simp only [rowH, List.mem_singleton] at h; exact ⟨by simp, h⟩
theorem B2q {e : Enc α} {ty b k nx nx' n : Nat} {l : List α} {env env' : List (Nat × PV)} {H : Heap} (h : A0n e ty H k l) (hb : b < nx') (hB : B <= b)
  (he : ∀ q ∈ env', look env q.1 = some (ren (fun c => if c = b then k else c) q.2) /\ under nx' q.2 = true) :
  Sub P G B ⟨env, H, nx, n⟩ ⟨env', rowH e ty b l, nx', n⟩ := by
 refine A7s (fun c => if c = b then k else c) rfl (by show B <= nx'; omega) (fun c hc => by show (if c = b then k else c) = c; rw [if_neg (by omega)]) he (fun q hq => ?_) (fun q hq q' hq' _ => ?_)
 ·obtain ⟨hne, rfl⟩ := A2p hq
  simp only [if_true, A1e, A0y]
  rcases h with h | h
  ·exact absurd h hne
  ·exact ⟨h, hb, trivial⟩
 ·obtain ⟨_, rfl⟩ := A2p hq
  obtain ⟨_, rfl⟩ := A2p hq'
  rfl
theorem C9e {nx nx' n : Nat} {env env' : List (Nat × PV)} {H : Heap} (hB : B <= nx') (he : ∀ q ∈ env', look env q.1 = some q.2 /\ under 0 q.2 = true) :
  Sub P G B ⟨env, H, nx, n⟩ ⟨env', [], nx', n⟩ := by
 have key : ∀ (p : PV), under 0 p = true -> ren id p = p /\ under nx' p = true := by
  intro p hp
  constructor
  ·have : (∀ p : PV, ren id p = p) /\ (∀ ps : List PV, renL id ps = ps) := by
    constructor
    ·intro p
     exact PV.rec (motive_1 := fun p => ren id p = p) (motive_2 := fun ps => renL id ps = ps) (fun x => rfl) (fun b o n z => rfl) (fun b o => rfl) (fun cs ih => by simp only [ren, ih]) (fun cs ih => by simp only [ren, ih])
      (fun f a c ih1 ih2 => by simp only [ren, ih1, ih2]) (fun t x ih => by simp only [ren, ih]) (fun b => rfl) rfl rfl (fun p ps h1 h2 => by simp only [renL, h1, h2]) p
    ·intro ps
     exact PV.rec_1 (motive_1 := fun p => ren id p = p) (motive_2 := fun ps => renL id ps = ps) (fun x => rfl) (fun b o n z => rfl) (fun b o => rfl) (fun cs ih => by simp only [ren, ih]) (fun cs ih => by simp only [ren, ih])
      (fun f a c ih1 ih2 => by simp only [ren, ih1, ih2]) (fun t x ih => by simp only [ren, ih]) (fun b => rfl) rfl rfl (fun p ps h1 h2 => by simp only [renL, h1, h2]) ps
   exact this.1 p
  ·exact (PV.rec (motive_1 := fun p => under 0 p = true -> under nx' p = true) (motive_2 := fun ps => A0x 0 ps = true -> A0x nx' ps = true) (fun x _ => rfl) (fun b o n z h => by simp [under] at h) (fun b o h => by simp [under] at h)
    (fun cs ih h => by simp only [under] at h ⊢; exact ih h) (fun cs ih h => by simp only [under] at h ⊢; exact ih h) (fun f a c ih1 ih2 h => by simp only [under, Bool.and_eq_true] at h ⊢; exact ⟨ih1 h.1, ih2 h.2⟩)
    (fun t x ih h => by simp only [under] at h ⊢; exact ih h) (fun b h => by simp [under] at h) (fun _ => rfl) (fun _ => rfl) (fun p ps h1 h2 h => by simp only [A0x, Bool.and_eq_true] at h ⊢; exact ⟨h1 h.1, h2 h.2⟩) p) hp
 refine A7s id rfl hB (fun _ _ => rfl) (fun q hq => ?_) (fun q hq => by simp at hq) (fun q hq => by simp at hq)
 obtain ⟨h1, h2⟩ := he q hq
 obtain ⟨h3, h4⟩ := key q.2 h2
 rw [h3]
 exact ⟨h1, h4⟩
end
theorem B6u (bs : ByteArray) : ∀ (n i : Nat) (r : List UInt8), bs.size - i = n -> ByteArray.toList.loop bs i r = r.reverse ++ bs.data.toList.drop i
 | 0, i, r, h => by
  unfold ByteArray.toList.loop
  have hi : ¬ i < bs.size := by omega
  have hs : bs.data.toList.length = bs.size := rfl
  rw [if_neg hi, List.drop_eq_nil_of_le (by omega)]
  simp
 | n + 1, i, r, h => by
  unfold ByteArray.toList.loop
  have hi : i < bs.size := by omega
  rw [if_pos hi, B6u bs n (i + 1) _ (by omega)]
  have hs : bs.data.toList.length = bs.size := rfl
  have hl : i < bs.data.toList.length := by omega
  rw [List.drop_eq_getElem_cons hl, List.reverse_cons, List.append_assoc]
  congr 2
  have hl' : i < bs.data.size := by simpa using hl
  show bs.data[i]! :: _ = _
  rw [getElem!_pos bs.data i hl']
  rfl
theorem A4o (bs : ByteArray) : bs.toList = bs.data.toList := by
 unfold ByteArray.toList
 rw [B6u bs bs.size 0 [] (by omega)]
 simp
def lessS (a b : ByteArray) : Bool := Op.bytesLess a.toList b.toList
@[simp] theorem evalK_slss {Φ : A0u} {H : Heap} {nx : Nat} (isB : Bool) (nk : Option NK) (a b : ByteArray) : A0d Φ H nx (.bin isB .lss nk) [.t (.v (.string a)), .t (.v (.string b))] = some (.t (.v (.bool (lessS a b))), H, nx) := rfl
theorem B6v {α : Type} {p : α -> Bool} {l : List α} {j : Nat} {y : α} (h : j < l.findIdx p) (hy : l[j]? = some y) : p y = false := by
 have hj : j < l.length := (List.getElem?_eq_some_iff.1 hy).1
 have := List.not_of_lt_findIdx h
 rw [(List.getElem?_eq_some_iff.1 hy).2] at this
 simpa using this
theorem B6w {α : Type} {p : α -> Bool} {l : List α} (h : l.findIdx p < l.length) : ∃ x, l[l.findIdx p]? = some x /\ p x = true :=
 ⟨l[l.findIdx p], List.getElem?_eq_getElem h, List.findIdx_getElem⟩
theorem D1x {α : Type} (p : α -> Bool) (l : List α) : l.findIdx p <= l.length := List.findIdx_le_length
theorem C4b {α : Type} {p : α -> Bool} {l : List α} (h : l.findIdx p = l.length) : ∀ x ∈ l, p x = false := by
 intro x hx
 obtain ⟨i, hi, e⟩ := List.getElem_of_mem hx
 have := B6v (p := p) (l := l) (j := i) (y := x) (by omega) (by rw [List.getElem?_eq_getElem hi, e])
 exact this
section
variable {α : Type}
theorem A4j {e : Enc α} {ty by' : Nat} {H : Heap} {nx b : Nat} {l m : List α} {src : PV} (h : A0n e ty H b l) (hs : srcP H e.z src = some (m.length, (m.flatMap e.enc).map .t))
  (hb : (l.length + m.length) * by' <= 140737488355328) (hb2 : l.length + m.length <= 9223372036854775807) :
  ∃ b' H' nx', appM ty e.z by' H nx (rowP e b l) src = some (rowP e b' (l ++ m), H', nx') /\ A0n e ty H' b' (l ++ m) /\ b' ≠ nx' /\ nx <= nx' /\ (∀ c, c ≠ b -> c < nx -> look H' c = look H c) /\ nx <= b' := by
 have ap := E3e (nx := nx) h hs hb hb2
 by_cases he : l ++ m = []
 ·refine ⟨nx + 1, appH e ty H nx b l m, appN nx l m, ?_, by rw [he]; exact A0n.nil _ _ _ _, ?_, ?_, ?_, by omega⟩
  ·rw [ap]
   have : ∀ b', rowP e b' (l ++ m) = .t nilS := by intro b'; rw [he]; rfl
   rw [this, this]
  ·unfold appN; rw [he]; simp
  ·unfold appN; rw [he]; simp
  ·intro c hc hlt
   unfold appH; rw [he]; simp
 ·have hne : (l ++ m).isEmpty = false := by
   cases hx : l ++ m with
   | nil => exact absurd hx he
   | cons _ _ => rfl
  refine ⟨nx, appH e ty H nx b l m, appN nx l m, ap, A0n.app, ?_, ?_, ?_, Nat.le_refl _⟩
  ·unfold appN; rw [hne]; simp
  ·unfold appN; rw [hne]; simp
  ·intro c hc hlt
   exact D4s (by omega) hc
variable {e : Enc α} {t : T} {l : List α}
end
section
variable {P : Program} {G : A0t}
theorem A1d.keep1 {f : FuncId} {ps : List PV} {R0 : Row} {r : T} {H' : Heap} {nx' : Nat} {ty : TypeId} {cs : List T} (h : A1d P G f ps [(0, R0)] 1 (.t r) H' nx') (hl : look H' 0 = some (.cells ty (cs.map .t))) :
  A1d P G f ps [(0, R0)] 1 (.t r) [(0, .cells ty (cs.map .t))] 1 := by
 refine ⟨h.1, fun L w us hok hnx hargs => (h.2 L w us hok hnx hargs).mono ?_⟩
 rintro e w' ⟨v, L', rfl, hv, hok', hnx', hm, hx⟩
 have one : ∀ b r, look [(0, Row.cells ty (cs.map .t))] b = some r -> b = 0 /\ r = .cells ty (cs.map .t) := by
  intro b r hb
  simp only [look] at hb
  split at hb
  ·rename_i e; injection hb with hb; exact ⟨e.symm, hb.symm⟩
  ·cases hb
 refine ⟨v, { L' with nx := 1 }, rfl, by simp only [RepV] at hv ⊢; exact hv, ⟨hok'.lt, fun b r hb => ?_, fun b r hb => ?_, fun b b' r r' hb hb' _ => ?_, fun b r hb => ?_, hok'.glob⟩, rfl,
  ⟨hm.keeps, by rw [hnx]; exact Nat.le_refl _, hm.μ, hm.size, hm.shape⟩, ⟨hx.size, hx.same, hx.more, hx.new, fun g ⟨b, r, hb, e⟩ => ?_, hx.shape, hx.outer⟩⟩
 ·obtain ⟨rfl, rfl⟩ := one b r hb
  obtain ⟨arr, ha, hl2, hc⟩ := hok'.rep 0 _ hl
  refine ⟨arr, ha, hl2, fun j c hj => ?_⟩
  obtain ⟨x, hx1, hx2, hx3⟩ := hc j c hj
  refine ⟨x, hx1, hx2, ?_⟩
  rw [List.getElem?_map] at hj
  obtain ⟨c0, _, rfl⟩ := Option.map_eq_some_iff.1 hj
  simp only [RepV] at hx3 ⊢
  exact hx3
 ·obtain ⟨rfl, rfl⟩ := one b r hb
  exact hok'.apart 0 _ hl
 ·rw [(one b r hb).1, (one b' r' hb').1]
 ·rw [(one b r hb).1]; exact Nat.lt_succ_self _
 ·obtain ⟨rfl, rfl⟩ := one b r hb
  exact hx.mine g ⟨0, _, hl, e⟩
def hObj (ty : TypeId) (g : List T -> List T -> Option (T × List T)) (ps : List PV) (H : Heap) (nx : Nat) : Option (PV × Heap × Nat) :=
 match ps with
 | .ptr b 0 :: args => match look H b, allT args with
  | some (.cells ty' cs), some ts => match allT cs with
   | some cs' => if ty' = ty /\ b < nx then (g cs' ts).map fun o => (.t o.1, upd H b (.cells ty (o.2.map .t)), nx) else none
   | none => none
  | _, _ => none
 | _ => none
theorem E3f {f : FuncId} {ty : TypeId} {g : List T -> List T -> Option (T × List T)}
  (h : ∀ cs ts r cs', g cs ts = some (r, cs') -> A1d P G f (.ptr 0 0 :: ts.map .t) [(0, .cells ty (cs.map .t))] 1 (.t r) [(0, .cells ty (cs'.map .t))] 1) : HOK P G f (hObj ty g) where
 call := fun ps H nx r H' nx' hr => by
  unfold hObj at hr
  split at hr
  ·rename_i b args
   split at hr
   ·rename_i ty' cs ts hl ha
    split at hr
    ·rename_i cs' hc
     split at hr
     ·rename_i hcond
      obtain ⟨rfl, hb⟩ := hcond
      obtain ⟨o, ho, e⟩ := Option.map_eq_some_iff.1 hr
      injection e with e1 e2; injection e2 with e2 e3; subst e1; subst e2; subst e3
      have := (h cs' ts o.1 o.2 ho).lift1 (b := b) (NX := nx) (Hb := H) (by rw [hl, A4s hc]) hb
      rw [<- A4s ha] at this
      exact this
     ·cases hr
    ·cases hr
   ·cases hr
  ·cases hr
 fresh := fun ps H nx r H' nx' hr hf => by
  unfold hObj at hr
  split at hr
  ·rename_i b args
   split at hr
   ·rename_i ty' cs ts hl ha
    split at hr
    ·rename_i cs' hc
     split at hr
     ·rename_i hcond
      obtain ⟨o, ho, e⟩ := Option.map_eq_some_iff.1 hr
      injection e with e1 e2; injection e2 with e2 e3; subst e1; subst e2; subst e3
      intro j x hj
      rw [A0g] at hj
      split at hj
      ·rename_i e; subst e; exact hcond.2
      ·exact hf j x hj
     ·cases hr
    ·cases hr
   ·cases hr
  ·cases hr
theorem E3g {ty : TypeId} {g : List T -> List T -> Option (T × List T)} {b nx : Nat} {H : Heap} {cs ts : List T} {o : T × List T} (hl : look H b = some (.cells ty (cs.map .t))) (hb : b < nx) (ho : g cs ts = some o) :
  hObj ty g (.ptr b 0 :: ts.map .t) H nx = some (.t o.1, upd H b (.cells ty (o.2.map .t)), nx) := by
 simp only [hObj, hl, allT_map_t, hb, and_self, if_true, ho, Option.map_some]
end
noncomputable def hOne (ps0 : List PV) (H0 : Heap) (nx0 : Nat) (out : PV × Heap × Nat) (ps : List PV) (H : Heap) (nx : Nat) : Option (PV × Heap × Nat) :=
 open Classical in if ps = ps0 /\ H = H0 /\ nx = nx0 then some out else none
theorem A2d (ps : List PV) (H : Heap) (nx : Nat) (out : PV × Heap × Nat) : hOne ps H nx out ps H nx = some out := by
 unfold hOne
 rw [if_pos ⟨rfl, rfl, rfl⟩]
theorem A2q {P : Program} {G : A0t} {f : FuncId} {ps : List PV} {H : Heap} {nx : Nat} {r : PV} {H' : Heap} {nx' : Nat} (h : A1d P G f ps H nx r H' nx') (hf : (∀ b x, look H b = some x -> b < nx) -> ∀ b x, look H' b = some x -> b < nx') : HOK P G f (hOne ps H nx (r, H', nx')) where
 call := fun ps1 H1 nx1 r1 H1' nx1' h1 => by
  unfold hOne at h1
  split at h1
  ·rename_i hc
   obtain ⟨rfl, rfl, rfl⟩ := hc
   injection h1 with h1
   injection h1 with h1 h2
   injection h2 with h2 h3
   subst h1; subst h2; subst h3
   exact h
  ·cases h1
 fresh := fun ps1 H1 nx1 r1 H1' nx1' h1 => by
  unfold hOne at h1
  split at h1
  ·rename_i hc
   obtain ⟨rfl, rfl, rfl⟩ := hc
   injection h1 with h1
   injection h1 with h1 h2
   injection h2 with h2 h3
   subst h1; subst h2; subst h3
   exact hf
  ·cases h1
section
variable {α : Type} {P : Program} {G : A0t} {B : Nat}
theorem A2k {e : Enc α} {ty b k nx nx' n : Nat} {l : List α} {env env' : List (Nat × PV)} {H R : Heap} (h : A0n e ty H k l) (hb : b < nx') (hB : B <= b)
  (hR : ∀ q ∈ R, look H q.1 = some (A0v (fun x => if x = b then k else x) q.2) /\ q.1 < nx' /\ q.1 ≠ b /\ q.1 ≠ k /\ A0m nx' q.2 = true)
  (he : ∀ q ∈ env', look env q.1 = some (ren (fun x => if x = b then k else x) q.2) /\ under nx' q.2 = true) :
  Sub P G B ⟨env, H, nx, n⟩ ⟨env', R ++ rowH e ty b l, nx', n⟩ := by
 refine A7s (fun x => if x = b then k else x) rfl (by show B <= nx'; omega) (fun x hx => by show (if x = b then k else x) = x; rw [if_neg (by omega)]) he (fun q hq => ?_) (fun q hq q' hq' eqn => ?_)
 ·rcases List.mem_append.1 hq with hq | hq
  ·obtain ⟨h1, h2, h3, h4, h5⟩ := hR q hq
   refine ⟨?_, h2, h5⟩
   show look H (if q.1 = b then k else q.1) = _
   rw [if_neg h3]
   exact h1
  ·obtain ⟨hn, rfl⟩ := A2p hq
   simp only [if_true, A1e, A0y]
   exact ⟨h.resolve_left hn, hb, trivial⟩
 ·have key : ∀ q ∈ R ++ rowH e ty b l, q.1 = b \/ (q.1 ≠ b /\ q.1 ≠ k) := by
   intro q hq
   rcases List.mem_append.1 hq with hq | hq
   ·obtain ⟨h1, h2, h3, h4, h5⟩ := hR q hq
    exact .inr ⟨h3, h4⟩
   ·obtain ⟨hn, rfl⟩ := A2p hq
    exact .inl rfl
  have e : (if q.1 = b then k else q.1) = (if q'.1 = b then k else q'.1) := eqn
  rcases key q hq with h1 | ⟨h1, h2⟩ <;> rcases key q' hq' with h1' | ⟨h1', h2'⟩
  ·rw [h1, h1']
  ·rw [if_pos h1, if_neg h1'] at e; exact absurd e.symm h2'
  ·rw [if_neg h1, if_pos h1'] at e; exact absurd e h2
  ·rw [if_neg h1, if_neg h1'] at e; exact e
end
inductive Ds where
 | mk (op : Int) (name : ByteArray) (path : List ByteArray) (kids : List Ds)
def Ds.op : Ds -> Int | .mk o _ _ _ => o
def Ds.name : Ds -> ByteArray | .mk _ n _ _ => n
def Ds.path : Ds -> List ByteArray | .mk _ _ p _ => p
def Ds.kids : Ds -> List Ds | .mk _ _ _ k => k
def kidT : Nat -> List T -> T
 | 0, _ => nilS
 | n + 1, cs => .sl (n + 1) cs
mutual
def encD : Ds -> List T
 | .mk op name path kids => [iv op, sv name, A2h eStr path, kidT kids.length (B1d kids)]
def B1d : List Ds -> List T
 | [] => []
 | d :: r => encD d ++ B1d r
end
theorem B2r (d : Ds) : (encD d).length = 4 := by cases d; rw [encD]; rfl
theorem C6v {a b : List ByteArray} (h : A2h eStr a = A2h eStr b) : a = b := (tSl eStr).uniq _ _ _ (IsS.tree eStr a) (h ▸ IsS.tree eStr b)
mutual
theorem C9f : ∀ (a b : Ds), encD a = encD b -> a = b
 | .mk o n p k, .mk o' n' p' k', h => by
  rw [encD, encD] at h
  injection h with h1 h; injection h with h2 h; injection h with h3 h; injection h with h4 _
  injection h1 with h1; injection h1 with _ h1
  injection h2 with h2; injection h2 with h2
  have h3' := C6v h3
  subst h1; subst h2; subst h3'
  have : k = k' := by
   cases k with
   | nil =>
    cases k' with
    | nil => rfl
    | cons _ _ => cases h4
   | cons x r =>
    cases k' with
    | nil => cases h4
    | cons y r' =>
     injection h4 with _ h4
     exact C4c (x :: r) (y :: r') h4
  rw [this]
theorem C4c : ∀ (a b : List Ds), B1d a = B1d b -> a = b
 | [], [], _ => rfl
 | [], d :: r, h => by
  rw [B1d, B1d] at h
  have := congrArg List.length h
  rw [List.length_append, B2r] at this
  simp at this
  omega
 | d :: r, [], h => by
  rw [B1d, B1d] at h
  have := congrArg List.length h
  rw [List.length_append, B2r] at this
  simp at this
 | a :: l, b :: m, h => by
  rw [B1d, B1d] at h
  have h1 := List.append_inj h (by rw [B2r, B2r])
  rw [C9f a b h1.1, C4c l m h1.2]
end
def eD : Enc Ds := ⟨4, encD, B2r, by omega, C9f⟩
theorem B3z : ∀ l : List Ds, B1d l = l.flatMap eD.enc
 | [] => rfl
 | d :: r => by rw [B1d, List.flatMap_cons, B3z r]; rfl
theorem A4p (op : Int) (name : ByteArray) (path : List ByteArray) (kids : List Ds) : encD (.mk op name path kids) = [iv op, sv name, A2h eStr path, A2h eD kids] := by
 rw [encD]
 cases kids with
 | nil => rfl
 | cons k r =>
  have e : A2h eD (k :: r) = .sl (k :: r).length ((k :: r).flatMap eD.enc) := rfl
  rw [e, <- B3z]; rfl
mutual
def IsD : Ds -> List T -> Prop
 | .mk op name path kids, cs => ∃ tp tk, cs = [iv op, sv name, tp, tk] /\ IsS eStr tp path /\ ((tk = nilS /\ kids = []) \/ ∃ c, tk = .sl kids.length c /\ IsDs kids c)
def IsDs : List Ds -> List T -> Prop
 | [], cs => cs = []
 | d :: r, cs => ∃ c c', cs = c ++ c' /\ IsD d c /\ IsDs r c'
end
def IsK (t : T) (kids : List Ds) : Prop := (t = nilS /\ kids = []) \/ ∃ c, t = .sl kids.length c /\ IsDs kids c
theorem IsD.len : ∀ {d : Ds} {c : List T}, IsD d c -> c.length = 4
 | .mk _ _ _ _, c, h => by
  simp only [IsD] at h
  obtain ⟨tp, tk, rfl, _⟩ := h
  rfl
theorem IsD.parts {op : Int} {name : ByteArray} {path : List ByteArray} {kids : List Ds} {c : List T} (h : IsD (.mk op name path kids) c) : ∃ tp tk, c = [iv op, sv name, tp, tk] /\ IsS eStr tp path /\ IsK tk kids := by
 simp only [IsD] at h
 exact h
mutual
theorem IsD.uniq : ∀ (a b : Ds) (c : List T), IsD a c -> IsD b c -> a = b
 | .mk o n p k, .mk o' n' p' k', c, h, h' => by
  obtain ⟨tp, tk, rfl, hp, hk⟩ := h.parts
  obtain ⟨tp', tk', e, hp', hk'⟩ := h'.parts
  injection e with h1 e; injection e with h2 e; injection e with h3 e; injection e with h4 _
  injection h1 with h1; injection h1 with _ h1
  injection h2 with h2; injection h2 with h2
  subst h1; subst h2; subst h3; subst h4
  have e1 := (tSl eStr).uniq _ _ _ hp hp'
  subst e1
  have : k = k' := by
   rcases hk with ⟨rfl, rfl⟩ | ⟨cs, rfl, hc⟩
   ·rcases hk' with ⟨_, rfl⟩ | ⟨cs', e, _⟩
    ·rfl
    ·cases e
   ·rcases hk' with ⟨e, _⟩ | ⟨cs', e, hc'⟩
    ·cases e
    ·injection e with e1 e2
     subst e2
     exact IsDs.uniq k k' cs hc hc'
  rw [this]
theorem IsDs.uniq : ∀ (a b : List Ds) (c : List T), IsDs a c -> IsDs b c -> a = b
 | [], [], _, _, _ => rfl
 | [], d :: r, c, h, h' => by
  simp only [IsDs] at h h'
  obtain ⟨c1, c2, e, h1, _⟩ := h'
  have := h1.len
  rw [h] at e
  have := congrArg List.length e
  rw [List.length_append] at this
  simp at this
  omega
 | d :: r, [], c, h, h' => by
  simp only [IsDs] at h h'
  obtain ⟨c1, c2, e, h1, _⟩ := h
  have := h1.len
  rw [h'] at e
  have := congrArg List.length e
  rw [List.length_append] at this
  simp at this
  omega
 | a :: l, b :: m, c, h, h' => by
  simp only [IsDs] at h h'
  obtain ⟨c1, c2, e, h1, h2⟩ := h
  obtain ⟨c1', c2', e', h1', h2'⟩ := h'
  rw [e] at e'
  have h3 := List.append_inj e' (by rw [h1.len, h1'.len])
  obtain ⟨rfl, rfl⟩ := h3
  rw [IsD.uniq a b c1 h1 h1', IsDs.uniq l m c2 h2 h2']
end
mutual
theorem IsD.enc : ∀ d : Ds, IsD d (encD d)
 | .mk o n p k => by
  rw [IsD, encD]
  refine ⟨_, _, rfl, IsS.tree eStr p, ?_⟩
  cases k with
  | nil => exact .inl ⟨rfl, rfl⟩
  | cons x r => exact .inr ⟨_, rfl, IsDs.enc (x :: r)⟩
theorem IsDs.enc : ∀ l : List Ds, IsDs l (B1d l)
 | [] => by rw [IsDs, B1d]
 | d :: r => by
  rw [IsDs, B1d]
  exact ⟨_, _, rfl, IsD.enc d, IsDs.enc r⟩
end
theorem IsK.tree (l : List Ds) : IsK (A2h eD l) l := by
 cases l with
 | nil => exact .inl ⟨rfl, rfl⟩
 | cons x r => exact .inr ⟨_, rfl, by rw [<- B3z]; exact IsDs.enc (x :: r)⟩
theorem IsDs.at_ : ∀ {l : List Ds} {c : List T} {i : Nat} {x : Ds}, IsDs l c -> l[i]? = some x -> ∃ ci r, c.drop (i * 4) = ci ++ r /\ IsD x ci
 | [], c, i, x, _, h => by simp at h
 | d :: l, c, 0, x, h, hx => by
  simp only [IsDs] at h
  obtain ⟨c1, c2, rfl, h1, _⟩ := h
  have e : d = x := by simpa using hx
  subst e
  exact ⟨c1, c2, rfl, h1⟩
 | d :: l, c, i + 1, x, h, hx => by
  simp only [IsDs] at h
  obtain ⟨c1, c2, rfl, h1, h2⟩ := h
  obtain ⟨ci, r, e, h3⟩ := h2.at_ (i := i) (x := x) (by simpa using hx)
  refine ⟨ci, r, ?_, h3⟩
  rw [show (i + 1) * 4 = 4 + i * 4 by omega, <- List.drop_drop, List.drop_left' h1.len, e]
theorem IsK.len {t : T} {l : List Ds} (h : IsK t l) : A2f (.t t) = some (.t (iv (l.length : Int))) := by
 rcases h with ⟨rfl, rfl⟩ | ⟨c, rfl, _⟩ <;> rfl
theorem IsK.iaddr {t : T} {l : List Ds} (h : IsK t l) {i : Nat} {x : Ds} (hx : l[i]? = some x) (k : IntKind) : ∃ ci r, A4v 4 (.t t) (.t (.v (.int k (i : Int)))) = some (.t (.pt (ci ++ r))) /\ IsD x ci := by
 have hi : i < l.length := (List.getElem?_eq_some_iff.1 hx).1
 rcases h with ⟨rfl, rfl⟩ | ⟨c, rfl, hc⟩
 ·simp at hi
 ·obtain ⟨ci, r, e, h3⟩ := hc.at_ hx
  refine ⟨ci, r, ?_, h3⟩
  simp only [A4v]
  rw [if_pos ⟨by omega, by omega⟩, Int.toNat_natCast, e]
def tD : Ty Ds := ⟨fun t d => ∃ c, t = .ag c /\ IsD d c, fun t a b ⟨c, e, h⟩ ⟨c', e', h'⟩ => by
 rw [e] at e'; injection e' with e'; subst e'; exact IsD.uniq a b c h h'⟩
def tK : Ty (List Ds) := ⟨IsK, fun t a b h h' => by
 rcases h with ⟨rfl, rfl⟩ | ⟨c, rfl, hc⟩
 ·rcases h' with ⟨_, rfl⟩ | ⟨c', e, _⟩
  ·rfl
  ·cases e
 ·rcases h' with ⟨e, _⟩ | ⟨c', e, hc'⟩
  ·cases e
  ·injection e with _ e
   subst e
   exact IsDs.uniq a b c hc hc'⟩
mutual
def Ds.depth : Ds -> Nat
 | .mk _ _ _ kids => B6x kids + 1
def B6x : List Ds -> Nat
 | [] => 0
 | d :: r => max d.depth (B6x r)
end
theorem B6y : ∀ {l : List Ds} {x : Ds}, x ∈ l -> x.depth <= B6x l
 | [], x, h => by cases h
 | d :: r, x, h => by
  rw [B6x]
  rcases List.mem_cons.1 h with e | e
  ·rw [e]; exact Nat.le_max_left _ _
  ·exact Nat.le_trans (B6y e) (Nat.le_max_right _ _)
end Go.Abs
