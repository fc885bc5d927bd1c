/-
  Trees as data: ints, bools, strings, slices of structs ('Ty'); contracts told over data. No statement of the program stands here.
-/
import Derived.Test.YtbiadmfmjnoecaaA22
namespace Go.Abs
set_option linter.unusedSimpArgs false
set_option linter.unusedVariables false
open Go

/-- How data of a type are trees. -/
structure Ty (α : Type) where
  is : T → α → Prop
  uniq : ∀ t a b, is t a → is t b → a = b

noncomputable def Ty.dec {α : Type} (τ : Ty α) (t : T) : Option α :=
  open Classical in if h : ∃ a, τ.is t a then some h.choose else none

theorem Ty.dec_is {α : Type} {τ : Ty α} {t : T} {a : α} (h : τ.is t a) : τ.dec t = some a := by
  unfold Ty.dec
  have hx : ∃ a, τ.is t a := ⟨a, h⟩
  rw [dif_pos hx]
  rw [τ.uniq t _ _ hx.choose_spec h]

theorem Ty.is_dec {α : Type} {τ : Ty α} {t : T} {a : α} (h : τ.dec t = some a) : τ.is t a := by
  unfold Ty.dec at h
  split at h
  · rename_i hx
    injection h with h
    subst h
    exact hx.choose_spec
  · cases h

abbrev iv (n : Int) : T := .v (.int .i64 n)
abbrev bv (b : Bool) : T := .v (.bool b)
abbrev sv (s : ByteArray) : T := .v (.string s)
abbrev nilS : T := .v (.slice none 0 0)

def tRaw : Ty T := ⟨fun t x => t = x, fun t a b h h' => h.symm.trans h'⟩
def tInt : Ty Int := ⟨fun t n => t = iv n, fun t a b h h' => by rw [h] at h'; injection h' with h'; injection h'⟩
def tBool : Ty Bool := ⟨fun t n => t = bv n, fun t a b h h' => by rw [h] at h'; injection h' with h'; injection h'⟩
def tStr : Ty ByteArray := ⟨fun t n => t = sv n, fun t a b h h' => by rw [h] at h'; injection h' with h'; injection h'⟩

/-- How the cells of a struct are told. -/
structure Enc (α : Type) where
  z : Nat
  enc : α → List T
  len : ∀ a, (enc a).length = z
  pos : 0 < z
  inj : ∀ a b, enc a = enc b → a = b

def slT {α : Type} (e : Enc α) (l : List α) : T := .sl l.length (l.flatMap e.enc)

/-- A slice, or nil. -/
def IsS {α : Type} (e : Enc α) (t : T) (l : List α) : Prop := (t = nilS ∧ l = []) ∨ t = slT e l

theorem flatMap_inj {α : Type} (e : Enc α) : ∀ (l m : List α), l.length = m.length → l.flatMap e.enc = m.flatMap e.enc → l = m
  | [], [], _, _ => rfl
  | [], _ :: _, h, _ => by simp at h
  | _ :: _, [], h, _ => by simp at h
  | a :: l, b :: m, h, he => by
    simp only [List.flatMap_cons] at he
    have h1 := List.append_inj he (by rw [e.len, e.len])
    rw [e.inj a b h1.1, flatMap_inj e l m (by simpa using h) h1.2]

def tSl {α : Type} (e : Enc α) : Ty (List α) := ⟨IsS e, fun t a b h h' => by
  rcases h with ⟨rfl, rfl⟩ | rfl
  · rcases h' with ⟨_, rfl⟩ | h'
    · rfl
    · cases h'
  · rcases h' with ⟨h', _⟩ | h'
    · cases h'
    · unfold slT at h'
      injection h' with h1 h2
      exact flatMap_inj e a b h1 h2⟩

/-- A struct value. -/
def tAg {α : Type} (e : Enc α) : Ty α := ⟨fun t a => t = .ag (e.enc a), fun t a b h h' => by rw [h] at h'; injection h' with h'; exact e.inj a b h'⟩

def eInt : Enc Int := ⟨1, fun n => [iv n], fun _ => rfl, by omega, fun a b h => by injection h with h; injection h with h; injection h⟩
def eStr : Enc ByteArray := ⟨1, fun n => [sv n], fun _ => rfl, by omega, fun a b h => by injection h with h; injection h with h; injection h⟩
def eBool : Enc Bool := ⟨1, fun n => [bv n], fun _ => rfl, by omega, fun a b h => by injection h with h; injection h with h; injection h⟩
/-- Slices of whatever is one cell. -/
def eRaw : Enc T := ⟨1, fun n => [n], fun _ => rfl, by omega, fun a b h => by injection h⟩

section
variable {α : Type} {e : Enc α} {t : T} {l : List α}

theorem IsS.len (h : IsS e t l) : lenslM (.t t) = some (.t (iv (l.length : Int))) := by
  rcases h with ⟨rfl, rfl⟩ | rfl <;> rfl

/-- What lies behind an element. -/
def rest (e : Enc α) (l : List α) (i : Nat) : List T := (l.drop (i + 1)).flatMap e.enc

theorem flat_drop (e : Enc α) : ∀ (l : List α) (i : Nat) (x : α), l[i]? = some x → (l.flatMap e.enc).drop (i * e.z) = e.enc x ++ rest e l i
  | [], i, x, h => by simp at h
  | a :: l, 0, x, h => by
    simp at h; subst h
    simp [rest]
  | a :: l, i + 1, x, h => by
    have ih := flat_drop e l i x (by simpa using h)
    rw [List.flatMap_cons, Nat.succ_mul, Nat.add_comm, ← List.drop_drop, List.drop_left' (e.len a), ih]
    simp [rest]

theorem IsS.iaddr (h : IsS e t l) {i : Nat} {x : α} (hx : l[i]? = some x) (k : IntKind) : iaddrM e.z (.t t) (.t (.v (.int k (i : Int)))) = some (.t (.pt (e.enc x ++ rest e l i))) := by
  have hi : i < l.length := (List.getElem?_eq_some_iff.1 hx).1
  rcases h with ⟨rfl, rfl⟩ | rfl
  · simp at hi
  · simp only [iaddrM, slT]
    rw [if_pos ⟨by omega, by omega⟩, Int.toNat_natCast, flat_drop e l i x hx]

theorem IsS.nil : IsS e nilS [] := .inl ⟨rfl, rfl⟩
theorem IsS.mk (l : List α) : IsS e (slT e l) l := .inr rfl
end

/-! Contracts. -/
noncomputable def g1 {α : Type} (τ : Ty α) (f : α → Option T) : List T → Option T
  | [a] => (τ.dec a).bind f
  | _ => none
noncomputable def g2 {α β : Type} (τ : Ty α) (σ : Ty β) (f : α → β → Option T) : List T → Option T
  | [a, b] => (τ.dec a).bind fun x => (σ.dec b).bind fun y => f x y
  | _ => none
noncomputable def g3 {α β γ : Type} (τ : Ty α) (σ : Ty β) (ρ : Ty γ) (f : α → β → γ → Option T) : List T → Option T
  | [a, b, c] => (τ.dec a).bind fun x => (σ.dec b).bind fun y => (ρ.dec c).bind fun z => f x y z
  | _ => none
noncomputable def g4 {α β γ δ : Type} (τ : Ty α) (σ : Ty β) (ρ : Ty γ) (π : Ty δ) (f : α → β → γ → δ → Option T) : List T → Option T
  | [a, b, c, d] => (τ.dec a).bind fun x => (σ.dec b).bind fun y => (ρ.dec c).bind fun z => (π.dec d).bind fun u => f x y z u
  | _ => none

section
variable {P : Program} {G : Globs} {F : FuncId} {α β γ δ : Type} {τ : Ty α} {σ : Ty β} {ρ : Ty γ} {π : Ty δ}

theorem g1_ok {f : α → Option T} (h : ∀ a x r, τ.is a x → f x = some r → CallT P G F [a] (· = r)) : GOK P G F (g1 τ f) := by
  intro args r e
  unfold g1 at e
  split at e
  · obtain ⟨x, hx, e⟩ := Option.bind_eq_some_iff.1 e
    exact h _ x r (Ty.is_dec hx) e
  · cases e
theorem g1_eq {f : α → Option T} {a : T} {x : α} (h : τ.is a x) : g1 τ f [a] = f x := by
  simp only [g1, Ty.dec_is h, Option.bind_some]
theorem g2_ok {f : α → β → Option T} (h : ∀ a b x y r, τ.is a x → σ.is b y → f x y = some r → CallT P G F [a, b] (· = r)) : GOK P G F (g2 τ σ f) := by
  intro args r e
  unfold g2 at e
  split at e
  · obtain ⟨x, hx, e⟩ := Option.bind_eq_some_iff.1 e
    obtain ⟨y, hy, e⟩ := Option.bind_eq_some_iff.1 e
    exact h _ _ x y r (Ty.is_dec hx) (Ty.is_dec hy) e
  · cases e
theorem g2_eq {f : α → β → Option T} {a b : T} {x : α} {y : β} (h : τ.is a x) (h' : σ.is b y) : g2 τ σ f [a, b] = f x y := by
  simp only [g2, Ty.dec_is h, Ty.dec_is h', Option.bind_some]
theorem g3_ok {f : α → β → γ → Option T} (h : ∀ a b c x y z r, τ.is a x → σ.is b y → ρ.is c z → f x y z = some r → CallT P G F [a, b, c] (· = r)) : GOK P G F (g3 τ σ ρ f) := by
  intro args r e
  unfold g3 at e
  split at e
  · obtain ⟨x, hx, e⟩ := Option.bind_eq_some_iff.1 e
    obtain ⟨y, hy, e⟩ := Option.bind_eq_some_iff.1 e
    obtain ⟨z, hz, e⟩ := Option.bind_eq_some_iff.1 e
    exact h _ _ _ x y z r (Ty.is_dec hx) (Ty.is_dec hy) (Ty.is_dec hz) e
  · cases e
theorem g3_eq {f : α → β → γ → Option T} {a b c : T} {x : α} {y : β} {z : γ} (h : τ.is a x) (h' : σ.is b y) (h'' : ρ.is c z) : g3 τ σ ρ f [a, b, c] = f x y z := by
  simp only [g3, Ty.dec_is h, Ty.dec_is h', Ty.dec_is h'', Option.bind_some]
theorem g4_ok {f : α → β → γ → δ → Option T} (h : ∀ a b c d x y z u r, τ.is a x → σ.is b y → ρ.is c z → π.is d u → f x y z u = some r → CallT P G F [a, b, c, d] (· = r)) : GOK P G F (g4 τ σ ρ π f) := by
  intro args r e
  unfold g4 at e
  split at e
  · obtain ⟨x, hx, e⟩ := Option.bind_eq_some_iff.1 e
    obtain ⟨y, hy, e⟩ := Option.bind_eq_some_iff.1 e
    obtain ⟨z, hz, e⟩ := Option.bind_eq_some_iff.1 e
    obtain ⟨u, hu, e⟩ := Option.bind_eq_some_iff.1 e
    exact h _ _ _ _ x y z u r (Ty.is_dec hx) (Ty.is_dec hy) (Ty.is_dec hz) (Ty.is_dec hu) e
  · cases e
theorem g4_eq {f : α → β → γ → δ → Option T} {a b c d : T} {x : α} {y : β} {z : γ} {u : δ} (h : τ.is a x) (h' : σ.is b y) (h'' : ρ.is c z) (h3 : π.is d u) : g4 τ σ ρ π f [a, b, c, d] = f x y z u := by
  simp only [g4, Ty.dec_is h, Ty.dec_is h', Ty.dec_is h'', Ty.dec_is h3, Option.bind_some]
end

/-! A slice that is appended to, in rows: its number may be any. -/
section
variable {α : Type}
def rowP (e : Enc α) (b : Nat) : List α → PV
  | [] => .t nilS
  | l => .row b 0 l.length e.z
def rowH (e : Enc α) (ty b : Nat) : List α → Heap
  | [] => []
  | l => [(b, .cells ty ((l.flatMap e.enc).map .t))]
/-- What such a slice is as a tree. -/
def treeS (e : Enc α) : List α → T
  | [] => nilS
  | l => slT e l
def lentS (b : Nat) : List α → List Nat
  | [] => []
  | _ => [b]

theorem IsS.tree (e : Enc α) (l : List α) : IsS e (treeS e l) l := by
  cases l with
  | nil => exact .inl ⟨rfl, rfl⟩
  | cons x r => exact .inr rfl

theorem length_flat (e : Enc α) : ∀ l : List α, (l.flatMap e.enc).length = l.length * e.z
  | [] => by simp
  | a :: l => by rw [List.flatMap_cons, List.length_append, e.len, length_flat e l, List.length_cons, Nat.succ_mul, Nat.add_comm]

theorem toT_rowP (e : Enc α) (ty b : Nat) (l : List α) (H : Heap) : toT (rowH e ty b l ++ H) (rowP e b l) = some (treeS e l, lentS b l) := by
  cases l with
  | nil => rfl
  | cons x r =>
    have hl : (((x :: r).flatMap e.enc).map PV.t).length = (x :: r).length * e.z := by rw [List.length_map, length_flat]
    have tk : List.take ((x :: r).length * e.z) (((x :: r).flatMap e.enc).map PV.t) = ((x :: r).flatMap e.enc).map PV.t := List.take_of_length_le (by rw [hl]; exact Nat.le_refl _)
    simp only [rowH, rowP, List.cons_append, toT, look_cons, if_true, List.drop_zero, Nat.zero_add, hl, Nat.le_refl, tk, allT_map_t, Option.map_some]
    rfl

theorem ren_rowP (e : Enc α) (σ : Nat → Nat) (b : Nat) (l : List α) : ren σ (rowP e b l) = rowP e (σ b) l := by cases l <;> rfl
theorem under_rowP (e : Enc α) (n b : Nat) (l : List α) (h : b < n) : under n (rowP e b l) = true := by
  cases l with
  | nil => rfl
  | cons x r => simp [rowP, under, h]
end
end Go.Abs
