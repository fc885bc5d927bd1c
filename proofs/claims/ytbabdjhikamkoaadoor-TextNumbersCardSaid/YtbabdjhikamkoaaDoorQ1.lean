/-
  A logic of abstract states over the model: data that is never written again is a tree ('T'), memory that the call itself writes is a row under a number of its own ('PV', 'Row'). This text: the words, and that they keep. No statement of the program stands here.
  Abstract states of a function's body, and the rules for its code: sequence, condition, block, loop, return, regions that run in the text's order. No statement of the program stands here.
  Operations that only compute and read: what each gives, as a function of the abstract state, and that it does. No statement of the program stands here.
  Operations that only compute and read, further: slices of slices and strings, min and max, comparisons with nil; one function for all of them ('lightV') and its law. No statement of the program stands here.
-/
import Derived.Calls
import Derived.Tactics
import Derived.LoopN
import Derived.Laws.World
import Derived.Laws.AppendOwn
import Derived.Orders
import Derived.Scope
import Derived.Laws.Entries
import Derived.Laws.Slices
import Derived.Laws.Cells
import Derived.Laws.Rows
import Derived.WalkSpells
namespace Go.Abs
set_option linter.unusedSimpArgs false
set_option linter.unusedVariables false
open Go

/-- Data that is never written again. -/
inductive T where
  | v (x : Value)
  | sl (n : Nat) (cs : List T)
  | ag (cs : List T)
  | tu (cs : List T)
  | pt (cs : List T)
  | ic (t : TypeId) (x : T)
  deriving Inhabited

mutual
def RepT (I : Nat → Prop) (w : World) : T → Value → Prop
  | .v x, u => u = x
  | .sl n cs, u => ∃ (a : Addr) (c : Nat), u = .slice (some a) n c ∧ n ≤ c ∧ ((n = 0 ∧ cs = []) ∨ (a.spot = none ∧ I a.block ∧ RepC I w cs a.block a.off))
  | .ag cs, u => ∃ us : Array Value, u = .agg us ∧ (∀ x ∈ us.toList, x.oneCell' = true) ∧ RepL I w cs us.toList
  | .tu cs, u => ∃ us : Array Value, u = .tuple us ∧ RepL I w cs us.toList
  | .pt cs, u => ∃ b o, u = .pointer (some ⟨b, o, none⟩) ∧ I b ∧ RepC I w cs b o
  | .ic t x, u => ∃ y, u = .iface t y ∧ RepT I w x y
def RepC (I : Nat → Prop) (w : World) : List T → Nat → Nat → Prop
  | [], _, _ => True
  | c :: cs, b, o => (∃ x, w.cell? ⟨b, o, none⟩ = some x ∧ x.oneCell' = true ∧ RepT I w c x) ∧ RepC I w cs b (o + 1)
def RepL (I : Nat → Prop) (w : World) : List T → List Value → Prop
  | [], us => us = []
  | c :: cs, us => ∃ x xs, us = x :: xs ∧ RepT I w c x ∧ RepL I w cs xs
end

/-- Blocks of I are as they were. -/
def Keeps (I I' : Nat → Prop) (w w' : World) : Prop := ∀ b, I b → I' b ∧ w'.heap[b]? = w.heap[b]?

theorem Keeps.cell {I I' : Nat → Prop} {w w' : World} (h : Keeps I I' w w') {b o : Nat} (hb : I b) : w'.cell? ⟨b, o, none⟩ = w.cell? ⟨b, o, none⟩ := by
  simp [World.cell?, (h b hb).2]

mutual
theorem RepT.keep {I I' : Nat → Prop} {w w' : World} (h : Keeps I I' w w') : ∀ (t : T) {u : Value}, RepT I w t u → RepT I' w' t u
  | .v _, _, hr => by simpa only [RepT] using hr
  | .sl n cs, _, hr => by
    simp only [RepT] at hr ⊢
    obtain ⟨a, c, e, hc, hb⟩ := hr
    exact ⟨a, c, e, hc, hb.imp id (fun hb => ⟨hb.1, (h _ hb.2.1).1, RepC.keep h cs hb.2.1 hb.2.2⟩)⟩
  | .ag cs, _, hr => by
    simp only [RepT] at hr ⊢
    obtain ⟨us, e, h1, hl⟩ := hr
    exact ⟨us, e, h1, RepL.keep h cs hl⟩
  | .tu cs, _, hr => by
    simp only [RepT] at hr ⊢
    obtain ⟨us, e, hl⟩ := hr
    exact ⟨us, e, RepL.keep h cs hl⟩
  | .pt cs, _, hr => by
    simp only [RepT] at hr ⊢
    obtain ⟨b, o, e, hb, hcs⟩ := hr
    exact ⟨b, o, e, (h b hb).1, RepC.keep h cs hb hcs⟩
  | .ic t x, _, hr => by
    simp only [RepT] at hr ⊢
    obtain ⟨y, e, hy⟩ := hr
    exact ⟨y, e, RepT.keep h x hy⟩
theorem RepC.keep {I I' : Nat → Prop} {w w' : World} (h : Keeps I I' w w') : ∀ (cs : List T) {b o : Nat}, I b → RepC I w cs b o → RepC I' w' cs b o
  | [], _, _, _, _ => by simp only [RepC]
  | c :: cs, b, o, hb, hr => by
    simp only [RepC] at hr ⊢
    obtain ⟨⟨x, hx, h1, hc⟩, hcs⟩ := hr
    exact ⟨⟨x, (h.cell hb).trans hx, h1, RepT.keep h c hc⟩, RepC.keep h cs hb hcs⟩
theorem RepL.keep {I I' : Nat → Prop} {w w' : World} (h : Keeps I I' w w') : ∀ (cs : List T) {us : List Value}, RepL I w cs us → RepL I' w' cs us
  | [], _, hr => by simpa only [RepL] using hr
  | c :: cs, _, hr => by
    simp only [RepL] at hr ⊢
    obtain ⟨x, xs, e, hx, hxs⟩ := hr
    exact ⟨x, xs, e, RepT.keep h c hx, RepL.keep h cs hxs⟩
end

theorem RepL.length {I : Nat → Prop} {w : World} : ∀ {cs : List T} {us : List Value}, RepL I w cs us → us.length = cs.length
  | [], _, hr => by simp only [RepL] at hr; simp [hr]
  | c :: cs, _, hr => by
    simp only [RepL] at hr
    obtain ⟨x, xs, e, _, hxs⟩ := hr
    simp [e, RepL.length hxs]

theorem RepC.drop {I : Nat → Prop} {w : World} : ∀ {cs : List T} {b o : Nat} (k : Nat), RepC I w cs b o → RepC I w (cs.drop k) b (o + k)
  | cs, b, o, 0, h => by simpa using h
  | [], b, o, k + 1, h => by simp only [List.drop_nil, RepC]
  | c :: cs, b, o, k + 1, h => by
    simp only [RepC] at h
    have := RepC.drop k h.2
    simpa [Nat.add_comm, Nat.add_left_comm, Nat.add_assoc] using this

theorem RepC.take {I : Nat → Prop} {w : World} : ∀ {cs : List T} {b o : Nat} (k : Nat), RepC I w cs b o → RepC I w (cs.take k) b o
  | cs, b, o, 0, h => by simp only [List.take_zero, RepC]
  | [], b, o, k + 1, h => by simp only [List.take_nil, RepC]
  | c :: cs, b, o, k + 1, h => by
    simp only [RepC, List.take_succ_cons] at h ⊢
    exact ⟨h.1, RepC.take k h.2⟩

theorem RepC.at_ {I : Nat → Prop} {w : World} : ∀ {cs : List T} {b o : Nat} (k : Nat) {c : T}, RepC I w cs b o → cs[k]? = some c → ∃ x, w.cell? ⟨b, o + k, none⟩ = some x ∧ x.oneCell' = true ∧ RepT I w c x
  | [], b, o, k, c, _, hk => by simp at hk
  | d :: cs, b, o, 0, c, h, hk => by
    simp only [RepC] at h
    have e : d = c := by simpa using hk
    subst e
    exact h.1
  | d :: cs, b, o, k + 1, c, h, hk => by
    simp only [RepC] at h
    have := RepC.at_ k h.2 (by simpa using hk)
    rwa [show o + 1 + k = o + (k + 1) by omega] at this

theorem RepC.mk {I : Nat → Prop} {w : World} : ∀ {cs : List T} {b o : Nat}, (∀ (k : Nat) c, cs[k]? = some c → ∃ x, w.cell? ⟨b, o + k, none⟩ = some x ∧ x.oneCell' = true ∧ RepT I w c x) → RepC I w cs b o
  | [], b, o, _ => by simp only [RepC]
  | d :: cs, b, o, h => by
    simp only [RepC]
    refine ⟨by simpa using h 0 d (by simp), RepC.mk fun k c hk => ?_⟩
    have := h (k + 1) c (by simpa using hk)
    rwa [show o + (k + 1) = o + 1 + k by omega] at this

theorem RepL.at_ {I : Nat → Prop} {w : World} : ∀ {cs : List T} {us : List Value} (k : Nat) {c : T}, RepL I w cs us → cs[k]? = some c → ∃ x, us[k]? = some x ∧ RepT I w c x
  | [], us, k, c, _, hk => by simp at hk
  | d :: cs, us, 0, c, h, hk => by
    simp only [RepL] at h
    obtain ⟨x, xs, e, hx, _⟩ := h
    have ed : d = c := by simpa using hk
    subst ed
    exact ⟨x, by simp [e], hx⟩
  | d :: cs, us, k + 1, c, h, hk => by
    simp only [RepL] at h
    obtain ⟨x, xs, e, _, hxs⟩ := h
    obtain ⟨y, hy, hr⟩ := RepL.at_ k hxs (by simpa using hk)
    exact ⟨y, by simp [e, hy], hr⟩

theorem RepL.mk {I : Nat → Prop} {w : World} : ∀ {cs : List T} {us : List Value}, us.length = cs.length → (∀ (k : Nat) c x, cs[k]? = some c → us[k]? = some x → RepT I w c x) → RepL I w cs us
  | [], us, hl, _ => by simp only [RepL]; exact List.eq_nil_of_length_eq_zero (by simpa using hl)
  | d :: cs, [], hl, _ => by simp at hl
  | d :: cs, u :: us, hl, h => by
    simp only [RepL]
    exact ⟨u, us, rfl, h 0 d u (by simp) (by simp), RepL.mk (by simpa using hl) fun k c x hc hx => h (k + 1) c x (by simpa using hc) (by simpa using hx)⟩

/-! Values of a walk: trees, and what refers to rows. -/

inductive PV where
  | t (x : T)
  | row (b o n z : Nat)
  | ptr (b o : Nat)
  | ag (cs : List PV)
  | tu (cs : List PV)
  | fn (f : Fn) (first cap : List PV)
  | ic (t : TypeId) (x : PV)
  | mp (b : Nat)
  | dead
  deriving Inhabited

inductive Row where
  | cells (ty : TypeId) (cs : List PV)
  | iter (s : ByteArray) (pos : Nat)
  deriving Inhabited

structure Loc where
  I : Nat → Prop
  μ : Nat → Nat
  nx : Nat

mutual
def RepV (P : Program) (L : Loc) (w : World) : PV → Value → Prop
  | .t x, u => RepT L.I w x u
  | .row b o n z, u => b < L.nx ∧ L.μ b < w.heap.size ∧ ∃ c, u = .slice (some ⟨L.μ b, o, none⟩) n c ∧ n ≤ c ∧ ∀ arr ty fz, w.heap[L.μ b]? = some (.cells arr ty fz) → o + c * z ≤ arr.size
  | .ptr b o, u => b < L.nx ∧ u = .pointer (some ⟨L.μ b, o, none⟩)
  | .ag cs, u => ∃ us : Array Value, u = .agg us ∧ (∀ x ∈ us.toList, x.oneCell' = true) ∧ RepVL P L w cs us.toList
  | .tu cs, u => ∃ us : Array Value, u = .tuple us ∧ RepVL P L w cs us.toList
  | .fn f first cap, u => ∃ us vs : Array Value, u = .func f us vs ∧ RepVL P L w first us.toList ∧ RepVL P L w cap vs.toList
  | .ic t x, u => ∃ y, u = .iface t y ∧ RepV P L w x y
  | .mp b, u => b < L.nx ∧ u = .map (some (L.μ b))
  | .dead, _ => True
def RepVL (P : Program) (L : Loc) (w : World) : List PV → List Value → Prop
  | [], us => us = []
  | c :: cs, us => ∃ x xs, us = x :: xs ∧ RepV P L w c x ∧ RepVL P L w cs xs
end

def look {α : Type} : List (Nat × α) → Nat → Option α
  | [], _ => none
  | (k, x) :: r, j => if k = j then some x else look r j

abbrev Heap := List (Nat × Row)

/-- What row r is, at block g. -/
def RowRep (P : Program) (L : Loc) (w : World) (g : Nat) : Row → Prop
  | .cells ty cs => ∃ arr, w.heap[g]? = some (.cells arr ty (0, 0)) ∧ cs.length ≤ arr.size ∧ ∀ (j : Nat) c, cs[j]? = some c → ∃ x, arr[j]? = some x ∧ x.oneCell' = true ∧ RepV P L w c x
  | .iter s pos => w.heap[g]? = some (.stringIter s pos)

/-- The package-level variables that are read: their cells. -/
abbrev Globs := List (Nat × List T)

/-- Block g holds the cells cs, and no more. -/
def RepG (I : Nat → Prop) (w : World) (cs : List T) (g : Nat) : Prop := RepC I w cs g 0 ∧ ∃ arr ty fz, w.heap[g]? = some (.cells arr ty fz) ∧ arr.size = cs.length

theorem RepG.keep {I I' : Nat → Prop} {w w' : World} (h : Keeps I I' w w') {cs : List T} {g : Nat} (hg : I g) (hr : RepG I w cs g) : RepG I' w' cs g := by
  obtain ⟨h1, arr, ty, fz, h2, h3⟩ := hr
  exact ⟨RepC.keep h cs hg h1, arr, ty, fz, (h g hg).2.trans h2, h3⟩

structure HeapOK (P : Program) (G : Globs) (L : Loc) (H : Heap) (w : World) : Prop where
  lt : ∀ b, L.I b → b < w.heap.size
  rep : ∀ b r, look H b = some r → RowRep P L w (L.μ b) r
  apart : ∀ b r, look H b = some r → ¬ L.I (L.μ b)
  inj : ∀ b b' r r', look H b = some r → look H b' = some r' → L.μ b = L.μ b' → b = b'
  nx : ∀ b r, look H b = some r → b < L.nx
  glob : ∀ g cs, look G g = some cs → L.I g ∧ RepG L.I w cs g

/-- What is tracked. -/
def Mine (L : Loc) (H : Heap) (g : Nat) : Prop := ∃ b r, look H b = some r ∧ L.μ b = g

/-- A later world: no block of cells has another length or type. -/
def Shapes (w w' : World) : Prop := ∀ g, g < w.heap.size → ∀ arr ty fz, w'.heap[g]? = some (.cells arr ty fz) → ∃ arr0 fz0, w.heap[g]? = some (.cells arr0 ty fz0) ∧ arr0.size = arr.size

theorem Shapes.refl (w : World) : Shapes w w := fun _ _ arr _ fz h => ⟨arr, fz, h, rfl⟩
theorem Shapes.trans {w w1 w2 : World} (h : Shapes w w1) (hs : w.heap.size ≤ w1.heap.size) (h' : Shapes w1 w2) : Shapes w w2 := fun g hg arr ty fz e => by
  obtain ⟨a1, f1, e1, s1⟩ := h' g (by omega) arr ty fz e
  obtain ⟨a0, f0, e0, s0⟩ := h g hg a1 ty f1 e1
  exact ⟨a0, f0, e0, s0.trans s1⟩

/-- The streams and the tape are as they were. -/
def Outer (w w' : World) : Prop := w'.os = w.os ∧ w'.tape = w.tape ∧ w'.output = w.output

theorem Outer.refl (w : World) : Outer w w := ⟨rfl, rfl, rfl⟩
theorem Outer.trans {w w1 w2 : World} (h : Outer w w1) (h' : Outer w1 w2) : Outer w w2 := ⟨h'.1.trans h.1, h'.2.1.trans h.2.1, h'.2.2.trans h.2.2⟩

structure Ext (L : Loc) (H : Heap) (w : World) (L' : Loc) (H' : Heap) (w' : World) : Prop where
  size : w.heap.size ≤ w'.heap.size
  same : ∀ g, g < w.heap.size → ¬ Mine L H g → w'.heap[g]? = w.heap[g]?
  more : ∀ g, L.I g → L'.I g
  new : ∀ g, L'.I g → L.I g ∨ w.heap.size ≤ g ∨ Mine L H g
  mine : ∀ g, Mine L' H' g → w.heap.size ≤ g ∨ Mine L H g
  shape : Shapes w w'
  outer : Outer w w'

theorem RowRep.lt {P : Program} {L : Loc} {w : World} {g : Nat} {r : Row} (h : RowRep P L w g r) : g < w.heap.size := by
  cases r with
  | cells ty cs => obtain ⟨arr, h, _⟩ := h; exact (Array.getElem?_eq_some_iff.1 h).1
  | iter s pos => exact (Array.getElem?_eq_some_iff.1 h).1

theorem Ext.refl (L : Loc) (H : Heap) (w : World) : Ext L H w L H w :=
  ⟨Nat.le_refl _, fun _ _ _ => rfl, fun _ h => h, fun _ h => .inl h, fun _ h => .inr h, Shapes.refl w, Outer.refl w⟩

theorem Ext.trans {L L1 L2 : Loc} {H H1 H2 : Heap} {w w1 w2 : World} (h : Ext L H w L1 H1 w1) (h' : Ext L1 H1 w1 L2 H2 w2) : Ext L H w L2 H2 w2 where
  size := Nat.le_trans h.size h'.size
  same := fun g hg hm => by
    rw [h'.same g (Nat.lt_of_lt_of_le hg h.size) (fun hm' => (h.mine g hm').elim (by omega) hm), h.same g hg hm]
  more := fun g hg => h'.more g (h.more g hg)
  new := fun g hg => by
    rcases h'.new g hg with h1 | h1 | h1
    · exact h.new g h1
    · exact .inr (.inl (Nat.le_trans h.size h1))
    · rcases h.mine g h1 with h2 | h2
      · exact .inr (.inl h2)
      · exact .inr (.inr h2)
  mine := fun g hg => by
    rcases h'.mine g hg with h1 | h1
    · exact .inl (Nat.le_trans h.size h1)
    · exact h.mine g h1
  shape := h.shape.trans h.size h'.shape
  outer := h.outer.trans h'.outer

/-- The blocks of the trees keep. -/
theorem Ext.keeps {P : Program} {G : Globs} {L L' : Loc} {H H' : Heap} {w w' : World} (hok : HeapOK P G L H w) (h : Ext L H w L' H' w') : Keeps L.I L'.I w w' :=
  fun b hb => ⟨h.more b hb, h.same b (hok.lt b hb) (fun ⟨_, _, hl, e⟩ => hok.apart _ _ hl (e ▸ hb))⟩

/-- What a value's reading asks of a later world. -/
structure Mono (L : Loc) (w : World) (L' : Loc) (w' : World) : Prop where
  keeps : Keeps L.I L'.I w w'
  nx : L.nx ≤ L'.nx
  μ : ∀ b, b < L.nx → L'.μ b = L.μ b
  size : w.heap.size ≤ w'.heap.size
  shape : Shapes w w'

theorem Mono.refl (L : Loc) (w : World) : Mono L w L w := ⟨fun _ h => ⟨h, rfl⟩, Nat.le_refl _, fun _ _ => rfl, Nat.le_refl _, Shapes.refl w⟩
theorem Mono.trans {L L1 L2 : Loc} {w w1 w2 : World} (h : Mono L w L1 w1) (h' : Mono L1 w1 L2 w2) : Mono L w L2 w2 :=
  ⟨fun b hb => ⟨(h'.keeps b (h.keeps b hb).1).1, (h'.keeps b (h.keeps b hb).1).2.trans (h.keeps b hb).2⟩, Nat.le_trans h.nx h'.nx,
    fun b hb => (h'.μ b (Nat.lt_of_lt_of_le hb h.nx)).trans (h.μ b hb), Nat.le_trans h.size h'.size, h.shape.trans h.size h'.shape⟩

mutual
theorem RepV.keep {P : Program} {L L' : Loc} {w w' : World} (h : Mono L w L' w') : ∀ (p : PV) {u : Value}, RepV P L w p u → RepV P L' w' p u
  | .t x, _, hr => by simp only [RepV] at hr ⊢; exact RepT.keep h.keeps x hr
  | .row b o n z, _, hr => by
    simp only [RepV] at hr ⊢
    obtain ⟨hb, hm, c, e, hc, hcap⟩ := hr
    refine ⟨Nat.lt_of_lt_of_le hb h.nx, ?_, c, ?_, hc, fun arr ty fz he => ?_⟩
    · rw [h.μ b hb]; exact Nat.lt_of_lt_of_le hm h.size
    · rw [h.μ b hb]; exact e
    · rw [h.μ b hb] at he
      obtain ⟨a0, f0, e0, s0⟩ := h.shape _ hm arr ty fz he
      rw [← s0]
      exact hcap a0 ty f0 e0
  | .ptr b o, _, hr => by
    simp only [RepV] at hr ⊢
    obtain ⟨hb, e⟩ := hr
    exact ⟨Nat.lt_of_lt_of_le hb h.nx, by rw [h.μ b hb]; exact e⟩
  | .ag cs, _, hr => by
    simp only [RepV] at hr ⊢
    obtain ⟨us, e, h1, hl⟩ := hr
    exact ⟨us, e, h1, RepVL.keep h cs hl⟩
  | .tu cs, _, hr => by
    simp only [RepV] at hr ⊢
    obtain ⟨us, e, hl⟩ := hr
    exact ⟨us, e, RepVL.keep h cs hl⟩
  | .fn f first cap, _, hr => by
    simp only [RepV] at hr ⊢
    obtain ⟨us, vs, e, hl, hl'⟩ := hr
    exact ⟨us, vs, e, RepVL.keep h first hl, RepVL.keep h cap hl'⟩
  | .ic t x, _, hr => by
    simp only [RepV] at hr ⊢
    obtain ⟨y, e, hy⟩ := hr
    exact ⟨y, e, RepV.keep h x hy⟩
  | .mp b, _, hr => by
    simp only [RepV] at hr ⊢
    obtain ⟨hb, e⟩ := hr
    exact ⟨Nat.lt_of_lt_of_le hb h.nx, by rw [h.μ b hb]; exact e⟩
  | .dead, _, _ => by simp only [RepV]
theorem RepVL.keep {P : Program} {L L' : Loc} {w w' : World} (h : Mono L w L' w') : ∀ (ps : List PV) {us : List Value}, RepVL P L w ps us → RepVL P L' w' ps us
  | [], _, hr => by simpa only [RepVL] using hr
  | c :: cs, _, hr => by
    simp only [RepVL] at hr ⊢
    obtain ⟨x, xs, e, hx, hxs⟩ := hr
    exact ⟨x, xs, e, RepV.keep h c hx, RepVL.keep h cs hxs⟩
end

theorem RepVL.at_ {P : Program} {L : Loc} {w : World} : ∀ {cs : List PV} {us : List Value} (k : Nat) {c : PV}, RepVL P L w cs us → cs[k]? = some c → ∃ x, us[k]? = some x ∧ RepV P L w c x
  | [], us, k, c, _, hk => by simp at hk
  | d :: cs, us, 0, c, h, hk => by
    simp only [RepVL] at h
    obtain ⟨x, xs, e, hx, _⟩ := h
    have ed : d = c := by simpa using hk
    subst ed
    exact ⟨x, by simp [e], hx⟩
  | d :: cs, us, k + 1, c, h, hk => by
    simp only [RepVL] at h
    obtain ⟨x, xs, e, _, hxs⟩ := h
    obtain ⟨y, hy, hr⟩ := RepVL.at_ k hxs (by simpa using hk)
    exact ⟨y, by simp [e, hy], hr⟩

theorem RepVL.length {P : Program} {L : Loc} {w : World} : ∀ {cs : List PV} {us : List Value}, RepVL P L w cs us → us.length = cs.length
  | [], _, hr => by simp only [RepVL] at hr; simp [hr]
  | c :: cs, _, hr => by
    simp only [RepVL] at hr
    obtain ⟨x, xs, e, _, hxs⟩ := hr
    simp [e, RepVL.length hxs]

theorem RepVL.mk {P : Program} {L : Loc} {w : World} : ∀ {cs : List PV} {us : List Value}, us.length = cs.length → (∀ (k : Nat) c x, cs[k]? = some c → us[k]? = some x → RepV P L w c x) → RepVL P L w cs us
  | [], us, hl, _ => by simp only [RepVL]; exact List.eq_nil_of_length_eq_zero (by simpa using hl)
  | d :: cs, [], hl, _ => by simp at hl
  | d :: cs, u :: us, hl, h => by
    simp only [RepVL]
    exact ⟨u, us, rfl, h 0 d u (by simp) (by simp), RepVL.mk (by simpa using hl) fun k c x hc hx => h (k + 1) c x (by simpa using hc) (by simpa using hx)⟩

theorem RepVL.ofT {P : Program} {L : Loc} {w : World} : ∀ {cs : List T} {us : List Value}, RepL L.I w cs us → RepVL P L w (cs.map .t) us
  | [], _, hr => by simp only [RepL] at hr; simp only [List.map_nil, RepVL]; exact hr
  | c :: cs, _, hr => by
    simp only [RepL] at hr
    obtain ⟨x, xs, e, hx, hxs⟩ := hr
    simp only [List.map_cons, RepVL, RepV]
    exact ⟨x, xs, e, hx, RepVL.ofT hxs⟩

theorem RepVL.toT {P : Program} {L : Loc} {w : World} : ∀ {cs : List T} {us : List Value}, RepVL P L w (cs.map .t) us → RepL L.I w cs us
  | [], _, hr => by simp only [List.map_nil, RepVL] at hr; simp only [RepL]; exact hr
  | c :: cs, _, hr => by
    simp only [List.map_cons, RepVL, RepV] at hr
    obtain ⟨x, xs, e, hx, hxs⟩ := hr
    simp only [RepL]
    exact ⟨x, xs, e, hx, RepVL.toT hxs⟩

end Go.Abs

namespace Go.Abs
set_option linter.unusedSimpArgs false
set_option linter.unusedVariables false
open Go

structure AState where
  env : List (Nat × PV)
  H : Heap
  nx : Nat
  n : Nat

def AState.put (s : AState) (d : Option Tmp) (p : PV) : AState :=
  match d with
  | some k => { s with env := (k, p) :: s.env }
  | none => s

/-- A constant of the code. -/
def ofConst : Value → PV
  | .agg us => if us.toList.all (·.oneCell') then .t (.ag (us.toList.map .v)) else .t (.v (.agg us))
  | x => .t (.v x)

/-- An operand's value. -/
def AState.ev (G : Globs) (s : AState) : Operand → PV
  | .tmp t => (look s.env t).getD .dead
  | .const x => ofConst x
  | .global g => match look G g with
    | some cs => .t (.pt cs)
    | none => .t (.v (.pointer (some ⟨g, 0, none⟩)))
  | .func f => .t (.v (.func (.func f) #[] #[]))

structure Interp (P : Program) (G : Globs) (B : Nat) (L : Loc) (s : AState) (a : Act) (w : World) : Prop where
  heap : HeapOK P G L s.H w
  nx : L.nx = s.nx
  base : B ≤ L.nx
  size : a.tmps.size = s.n
  defers : a.defers = []
  env : ∀ k p, look s.env k = some p → RepV P L w p (a.tmps.getD k undef)

section
variable {P : Program} {G : Globs} {B : Nat} {L : Loc} {s : AState} {a : Act} {w : World}

theorem rep_map_v (I : Nat → Prop) (w : World) : ∀ us : List Value, RepL I w (us.map .v) us
  | [] => by simp only [List.map_nil, RepL]
  | u :: us => by simp only [List.map_cons, RepL]; exact ⟨u, us, rfl, by simp only [RepT], rep_map_v I w us⟩

theorem rep_const (x : Value) : RepV P L w (ofConst x) x := by
  cases x <;> simp only [ofConst, RepV, RepT]
  case agg us =>
    split
    · rename_i h1
      simp only [RepV, RepT]
      exact ⟨us, rfl, List.all_eq_true.1 h1, rep_map_v _ _ _⟩
    · simp only [RepV, RepT]

theorem Interp.ev (h : Interp P G B L s a w) (x : Operand) : RepV P L w (s.ev G x) (a.eval x) := by
  cases x with
  | tmp t =>
    simp only [AState.ev, Act.eval]
    cases hl : look s.env t with
    | none => simp only [Option.getD_none, RepV]
    | some p => exact h.env t p hl
  | const x => exact rep_const x
  | global g =>
    simp only [AState.ev, Act.eval]
    split
    · rename_i cs hl
      simp only [RepV, RepT]
      exact ⟨g, 0, rfl, (h.heap.glob g cs hl).1, (h.heap.glob g cs hl).2.1⟩
    · simp only [RepV, RepT]
  | func f => simp only [AState.ev, Act.eval, RepV, RepT]
end

/-- What holds of the ends of a piece of code. -/
def Post (P : Program) (G : Globs) (B : Nat) (Q : Exit → AState → Prop) (L : Loc) (H : Heap) (w : World) : Exit → Act → World → Prop :=
  fun e a' w' => ∃ s' L', Q e s' ∧ Interp P G B L' s' a' w' ∧ Ext L H w L' s'.H w' ∧ ∀ b, b < B → L'.μ b = L.μ b

def ACode (P : Program) (G : Globs) (B : Nat) (c : Code) (Q : Exit → AState → Prop) (s : AState) : Prop :=
  ∀ L a w, Interp P G B L s a w → c.wp P (Post P G B Q L s.H w) a w

/-- Every state that s tells is told by s' too. -/
def Sub (P : Program) (G : Globs) (B : Nat) (s s' : AState) : Prop :=
  ∀ L a w, Interp P G B L s a w → ∃ L', Interp P G B L' s' a w ∧ Ext L s.H w L' s'.H w ∧ ∀ b, b < B → L'.μ b = L.μ b

section
variable {P : Program} {G : Globs} {B : Nat} {Q Q' : Exit → AState → Prop} {s s' s1 : AState} {L L1 : Loc} {w w1 : World} {a : Act}

theorem Post.later (hx : Ext L s.H w L1 s1.H w1) (hb : ∀ b, b < B → L1.μ b = L.μ b) {e : Exit} {a' : Act} {w' : World} (h : Post P G B Q L1 s1.H w1 e a' w') :
    Post P G B Q L s.H w e a' w' := by
  obtain ⟨s2, L2, hq, hi, hx2, hb2⟩ := h
  exact ⟨s2, L2, hq, hi, hx.trans hx2, fun b h => (hb2 b h).trans (hb b h)⟩

theorem Sub.refl (s : AState) : Sub P G B s s := fun L _ w h => ⟨L, h, Ext.refl L s.H w, fun _ _ => rfl⟩
theorem Sub.trans (h : Sub P G B s s1) (h' : Sub P G B s1 s') : Sub P G B s s' := fun L a w hi => by
  obtain ⟨L1, h1, x1, b1⟩ := h L a w hi
  obtain ⟨L2, h2, x2, b2⟩ := h' L1 a w h1
  exact ⟨L2, h2, x1.trans x2, fun b hb => (b2 b hb).trans (b1 b hb)⟩

theorem ACode.sub {c : Code} (h : Sub P G B s s') (hc : ACode P G B c Q s') : ACode P G B c Q s := fun L a w hi => by
  obtain ⟨L', hi', hx, hb⟩ := h L a w hi
  exact wp_mono (hc L' a w hi') fun _ _ _ hp => Post.later hx hb hp

theorem ACode.post {c : Code} (h : ACode P G B c Q s) (hq : ∀ e s1, Q e s1 → ∃ s2, Sub P G B s1 s2 ∧ Q' e s2) : ACode P G B c Q' s := fun L a w hi =>
  wp_mono (h L a w hi) fun e a' w' ⟨s1, L1, q, hi1, hx, hb⟩ => by
    obtain ⟨s2, hs, q2⟩ := hq e s1 q
    obtain ⟨L2, hi2, hx2, hb2⟩ := hs L1 a' w' hi1
    exact ⟨s2, L2, q2, hi2, hx.trans hx2, fun b h => (hb2 b h).trans (hb b h)⟩

theorem ACode.mono {c : Code} (h : ACode P G B c Q s) (hq : ∀ e s1, Q e s1 → Q' e s1) : ACode P G B c Q' s :=
  h.post fun e s1 q => ⟨s1, Sub.refl s1, hq e s1 q⟩

/-- Behind x goes y. -/
def Then (P : Program) (G : Globs) (B : Nat) (y : Code) (Q : Exit → AState → Prop) : Exit → AState → Prop
  | .normal, s => ACode P G B y Q s
  | e, s => Q e s

theorem acode_seq {x y : Code} (h : ACode P G B x (Then P G B y Q) s) : ACode P G B (.seq x y) Q s := fun L a w hi =>
  wp_seq (wp_mono (h L a w hi) fun e a' w' ⟨s1, L1, q, hi1, hx, hb⟩ => by
    cases e
    case normal => exact wp_mono (q L1 a' w' hi1) fun _ _ _ hp => Post.later hx hb hp
    all_goals exact ⟨s1, L1, q, hi1, hx, hb⟩)

theorem post_here (hi : Interp P G B L s a w) {e : Exit} (q : Q e s) : Post P G B Q L s.H w e a w :=
  ⟨s, L, q, hi, Ext.refl _ _ _, fun _ _ => rfl⟩

theorem acode_skip (h : Q .normal s) : ACode P G B .skip Q s := fun _ _ _ hi => wp_skip (post_here hi h)
theorem acode_label {l : Nat} (h : Q .normal s) : ACode P G B (.label l) Q s := fun _ _ _ hi => wp_label (post_here hi h)
theorem acode_exit {i : Nat} (h : Q (.exit i) s) : ACode P G B (.exit i) Q s := fun _ _ _ hi => wp_exit (post_here hi h)
theorem acode_ret (h : Q .ret s) : ACode P G B .ret Q s := fun _ _ _ hi => wp_ret (post_here hi h)

theorem acode_cond {c : Operand} {x y : Code} {t : Bool} (hc : s.ev G c = .t (.v (.bool t))) (h : ACode P G B (if t then x else y) Q s) : ACode P G B (.cond c x y) Q s := fun L a w hi => by
  have := hi.ev c
  rw [hc] at this
  simp only [RepV, RepT] at this
  exact wp_cond this (h L a w hi)

def InBlock (id : Nat) (Q : Exit → AState → Prop) : Exit → AState → Prop
  | .exit id', s => if id' = id then Q .normal s else Q (.exit id') s
  | e, s => Q e s

theorem acode_block {id : Nat} {c : Code} (h : ACode P G B c (InBlock id Q) s) : ACode P G B (.block id c) Q s := fun L a w hi =>
  wp_block (wp_mono (h L a w hi) (by
    intro e a' w' hp
    obtain ⟨s1, L1, q, hi1, hx, hb⟩ := hp
    cases e with
    | exit i =>
      simp only [InBlock, Exit.inBlock] at q ⊢
      by_cases hid : i = id
      · rw [if_pos hid] at q ⊢; exact ⟨s1, L1, q, hi1, hx, hb⟩
      · rw [if_neg hid] at q ⊢; exact ⟨s1, L1, q, hi1, hx, hb⟩
    | normal => exact ⟨s1, L1, q, hi1, hx, hb⟩
    | goto l => exact ⟨s1, L1, q, hi1, hx, hb⟩
    | ret => exact ⟨s1, L1, q, hi1, hx, hb⟩
    | panic ch => exact ⟨s1, L1, q, hi1, hx, hb⟩
    | outgrown => exact ⟨s1, L1, q, hi1, hx, hb⟩))

theorem rounds_mono {c : Code} {R R' : Exit → Act → World → Prop} (h : ∀ e a w, R e a w → R' e a w) : ∀ (n : Nat) (a : Act) (w : World), Code.rounds P c R n a w → Code.rounds P c R' n a w
  | 0, _, _, hr => hr
  | n + 1, a, w, hr => by
    rw [rounds_succ] at hr ⊢
    refine wp_mono hr fun e a' w' q => ?_
    cases e
    case normal => exact rounds_mono h n a' w' q
    all_goals exact h _ _ _ q

/-- What a round owes: the invariant at a smaller number, or the end. -/
def Round (P : Program) (G : Globs) (B : Nat) (Inv : Nat → AState → Prop) (n : Nat) (Q : Exit → AState → Prop) : Exit → AState → Prop
  | .normal, s => ∃ m, m < n ∧ ∃ s2, Sub P G B s s2 ∧ Inv m s2
  | e, s => Q e s

theorem acode_loop {c : Code} (Inv : Nat → AState → Prop) (n : Nat) (h0 : Inv n s)
    (round : ∀ n s, Inv n s → ACode P G B c (Round P G B Inv n Q) s) : ACode P G B (.loop c) Q s := by
  have key : ∀ N n s L a w, n ≤ N → Inv n s → Interp P G B L s a w → Code.rounds P c (Post P G B Q L s.H w) (N + 1) a w := by
    intro N
    induction N with
    | zero =>
      intro n s L a w hn hinv hi
      rw [rounds_succ]
      refine wp_mono (round n s hinv L a w hi) fun e a' w' ⟨s1, L1, q, hi1, hx, hb⟩ => ?_
      cases e
      case normal => obtain ⟨m, hm, _⟩ := q; omega
      all_goals exact ⟨s1, L1, q, hi1, hx, hb⟩
    | succ N ih =>
      intro n s L a w hn hinv hi
      rw [rounds_succ]
      refine wp_mono (round n s hinv L a w hi) fun e a' w' ⟨s1, L1, q, hi1, hx, hb⟩ => ?_
      cases e
      case normal =>
        obtain ⟨m, hm, s2, hs, hinv2⟩ := q
        obtain ⟨L2, hi2, hx2, hb2⟩ := hs L1 a' w' hi1
        exact rounds_mono (fun e a w hp => Post.later (hx.trans hx2) (fun b h => (hb2 b h).trans (hb b h)) hp) _ _ _ (ih m s2 L2 a' w' (by omega) hinv2 hi2)
      all_goals exact ⟨s1, L1, q, hi1, hx, hb⟩
  exact fun L a w hi => wp_loop_rounds (n + 1) (key n n s L a w (Nat.le_refl _) h0 hi)

/-! Operations. -/

/-- What an operation does: its value is r; the rows become H'. -/
def AOp (P : Program) (G : Globs) (B : Nat) (o : Oper) (s : AState) (r : PV) (H' : Heap) (nx' : Nat) : Prop :=
  ∀ L a w, Interp P G B L s a w → o.wp P a w (fun a' w' => ∃ v L', a' = a.put o.dst v ∧ RepV P L' w' r v ∧ HeapOK P G L' H' w' ∧ L'.nx = nx' ∧ Mono L w L' w' ∧ Ext L s.H w L' H' w') (fun _ _ _ => False)

theorem oper_wp_mono {o : Oper} {K K' : Act → World → Prop} {R R' : Exit → Act → World → Prop} (h : ∀ a w, K a w → K' a w) (hr : ∀ e a w, R e a w → R' e a w)
    (hh : o.wp P a w K R) : o.wp P a w K' R' := by
  unfold Oper.wp at *
  generalize (execOp a.eval o).run P w = r at *
  cases r with
  | ok n w' =>
    cases n <;> simp only [Oper.upon] at hh ⊢
    case value => exact h _ _ hh
    case skip => exact h _ _ hh
    case defer => exact h _ _ hh
    case enter =>
      refine Calls.mono hh fun e w'' he => ?_
      cases e
      case returned => exact h _ _ he
      case panicked => exact hr _ _ _ he
      case outgrown => obtain ⟨a0, w0, h0⟩ := he; exact ⟨a0, w0, hr _ _ _ h0⟩
    case row => exact Rows.mono hh (fun _ _ he => h _ _ he)
  | halt x w' =>
    cases x <;> simp only [Oper.upon] at hh ⊢
    exact hr _ _ _ hh

/-- Is the operation wanted? -/
def AState.wants (s : AState) (ops : Array Oper) (o : Oper) : Option Bool :=
  match o.guard with
  | none => some true
  | some (j, want) =>
    match (ops[j]?).bind (·.dst) with
    | some d => match look s.env d with
      | some (.t (.v (.bool b))) => some (b == want)
      | some (.t (.v (.tuple _))) => some false
      | _ => none
    | none => some false

theorem Interp.wants (hi : Interp P G B L s a w) {ops : Array Oper} {o : Oper} {b : Bool} (h : s.wants ops o = some b) : Region.wanted o (yielded ops a.tmps) = b := by
  unfold AState.wants at h
  unfold Region.wanted
  cases hg : o.guard with
  | none => simpa [hg] using h
  | some jw =>
    obtain ⟨j, want⟩ := jw
    simp only [hg] at h ⊢
    unfold yielded
    cases hd : (ops[j]?).bind (·.dst) with
    | none =>
      simp only [hd, Option.some.injEq] at h
      simp [← h]
    | some d =>
      simp only [hd] at h
      simp only [Option.bind_some]
      cases hl : look s.env d with
      | none => simp [hl] at h
      | some p =>
        have hr := hi.env d p hl
        have key : ∀ x, a.tmps.getD d undef = x → x ≠ undef → a.tmps[d]? = some x := by
          intro x hx hne
          rw [Array.getD_eq_getD_getElem?] at hx
          cases h2 : a.tmps[d]? with
          | none => rw [h2] at hx; exact absurd hx.symm hne
          | some y => rw [h2] at hx; simpa using hx
        simp only [hl] at h
        split at h
        · rename_i b' e
          injection e with e
          subst e
          simp only [RepV, RepT] at hr
          rw [key _ hr (by simp [undef])]
          simpa using h
        · rename_i us e
          injection e with e
          subst e
          simp only [RepV, RepT] at hr
          have : b = false := by simpa using h.symm
          subst this
          cases h2 : a.tmps[d]? with
          | none => simp
          | some y =>
            rw [Array.getD_eq_getD_getElem?, h2] at hr
            simp only [Option.getD_some] at hr
            subst hr
            simp
        · cases h

def AOps (P : Program) (G : Globs) (B : Nat) (ops : Array Oper) (l : List Oper) (Q : AState → Prop) (s : AState) : Prop :=
  ∀ L a w, Interp P G B L s a w → wpList P ops (Post P G B (fun e s' => e = .normal ∧ Q s') L s.H w) l a w

theorem look_put {s : AState} {d : Option Tmp} {p q : PV} {k : Nat} (h : look (s.put d p).env k = some q) : (d = some k ∧ q = p) ∨ (d ≠ some k ∧ look s.env k = some q) := by
  cases d with
  | none => exact .inr ⟨by simp, h⟩
  | some d =>
    simp only [AState.put, look] at h
    by_cases e : d = k
    · rw [if_pos e] at h; exact .inl ⟨by rw [e], by simpa using h.symm⟩
    · rw [if_neg e] at h; exact .inr ⟨by simpa using e, h⟩

theorem put_H {s : AState} {d : Option Tmp} {p : PV} : (s.put d p).H = s.H := by cases d <;> rfl
theorem put_nx {s : AState} {d : Option Tmp} {p : PV} : (s.put d p).nx = s.nx := by cases d <;> rfl
theorem put_n {s : AState} {d : Option Tmp} {p : PV} : (s.put d p).n = s.n := by cases d <;> rfl

theorem tmps_put (a : Act) (d : Option Tmp) (v : Value) (k : Nat) :
    (a.put d v).tmps.getD k undef = if d = some k ∧ k < a.tmps.size then v else a.tmps.getD k undef := by
  cases d with
  | none => simp [Act.put]
  | some d =>
    simp only [Act.put, Array.getD_eq_getD_getElem?, Option.some.injEq]
    by_cases e : d = k
    · subst e
      by_cases hk : d < a.tmps.size
      · simp [hk]
      · simp [hk]
    · simp [e, Array.getElem?_setIfInBounds_ne e]

/-- The state behind an operation. -/
theorem interp_put (hi : Interp P G B L s a w) {d : Option Tmp} {v : Value} {r : PV} {H' : Heap} {L' : Loc} {w' : World} (hd : ∀ k, d = some k → k < s.n)
    (hr : RepV P L' w' r v) (hok : HeapOK P G L' H' w') (hm : Mono L w L' w') :
    Interp P G B L' (({ s with H := H', nx := L'.nx } : AState).put d r) (a.put d v) w' where
  heap := by rw [put_H]; exact hok
  nx := by rw [put_nx]
  base := Nat.le_trans hi.base hm.nx
  size := by rw [put_n, ← hi.size]; cases d <;> simp [Act.put]
  defers := by cases d <;> simp [Act.put, hi.defers]
  env := fun k p hl => by
    rw [tmps_put]
    rcases look_put hl with ⟨e, rfl⟩ | ⟨e, hl'⟩
    · rw [if_pos ⟨e, by rw [hi.size]; exact hd k e⟩]; exact hr
    · rw [if_neg (fun h => e h.1)]; exact RepV.keep hm p (hi.env k p hl')

theorem aops_nil {ops : Array Oper} {Q : AState → Prop} (h : Q s) : AOps P G B ops [] Q s := fun _ _ _ hi => post_here hi ⟨rfl, h⟩

theorem aops_cons {ops : Array Oper} {Q : AState → Prop} {o : Oper} {rest : List Oper} {r : PV} {H' : Heap} {nx' : Nat} (hw : s.wants ops o = some true) (hd : ∀ k, o.dst = some k → k < s.n)
    (ho : AOp P G B o s r H' nx') (h : AOps P G B ops rest Q (({ s with H := H', nx := nx' } : AState).put o.dst r)) : AOps P G B ops (o :: rest) Q s := fun L a w hi => by
  unfold wpList
  rw [if_pos (hi.wants hw)]
  refine .inl (oper_wp_mono ?_ (fun _ _ _ h => h.elim) (ho L a w hi))
  rintro a' w' ⟨v, L', rfl, hr, hok, rfl, hm, hx⟩
  have hp := h L' _ w' (interp_put hi hd hr hok hm)
  rw [put_H] at hp
  have : ∀ (l : List Oper) (a : Act) (w2 : World), wpList P ops (Post P G B (fun e s' => e = .normal ∧ Q s') L' H' w') l a w2 → wpList P ops (Post P G B (fun e s' => e = .normal ∧ Q s') L s.H w) l a w2 := by
    have hq : ∀ e a w2, Post P G B (fun e s' => e = .normal ∧ Q s') L' H' w' e a w2 → Post P G B (fun e s' => e = .normal ∧ Q s') L s.H w e a w2 := by
      rintro e a w2 ⟨s2, L2, q, hi2, hx2, hb2⟩
      exact ⟨s2, L2, q, hi2, hx.trans hx2, fun b hb => (hb2 b hb).trans (hm.μ b (Nat.lt_of_lt_of_le hb hi.base))⟩
    intro l
    induction l with
    | nil => intro a w2 h; exact hq _ _ _ h
    | cons o l ih =>
      intro a w2 h
      unfold wpList at h ⊢
      split
      · rename_i hw
        rw [if_pos hw] at h
        rcases h with h | ⟨h1, a0, w0, h2⟩
        · exact .inl (oper_wp_mono ih hq h)
        · exact .inr ⟨h1, a0, w0, hq _ _ _ h2⟩
      · rename_i hw
        rw [if_neg hw] at h
        exact ih _ _ h
  exact this _ _ _ hp

theorem aops_skip {ops : Array Oper} {Q : AState → Prop} {o : Oper} {rest : List Oper} (hw : s.wants ops o = some false) (hd : ∀ k, o.dst = some k → k < s.n)
    (h : AOps P G B ops rest Q (s.put o.dst (.t (.v undef)))) : AOps P G B ops (o :: rest) Q s := fun L a w hi => by
  unfold wpList
  rw [if_neg (by rw [hi.wants hw]; simp)]
  have hi' := interp_put hi (r := .t (.v undef)) (v := undef) hd (by simp only [RepV, RepT]) hi.heap (Mono.refl L w)
  have e : ({ s with H := s.H, nx := L.nx } : AState) = s := by rw [hi.nx]
  rw [e] at hi'
  have := h L _ w hi'
  rw [put_H] at this
  exact this

theorem acode_region {id : Nat} {ops : Array Oper} (h : AOps P G B ops ops.toList (Q .normal) s) : ACode P G B (.region id ops false) Q s := fun L a w hi =>
  wp_region_list (by
    have := h L a w hi
    revert this
    generalize ops.toList = l
    intro this
    have hq : ∀ e a w2, Post P G B (fun e s' => e = .normal ∧ Q .normal s') L s.H w e a w2 → Post P G B Q L s.H w e a w2 := by
      rintro e a w2 ⟨s2, L2, ⟨rfl, q⟩, hi2, hx2, hb2⟩
      exact ⟨s2, L2, q, hi2, hx2, hb2⟩
    have key : ∀ (l : List Oper) (a : Act) (w2 : World), wpList P ops (Post P G B (fun e s' => e = .normal ∧ Q .normal s') L s.H w) l a w2 → wpList P ops (Post P G B Q L s.H w) l a w2 := by
      intro l
      induction l with
      | nil => intro a w2 h; exact hq _ _ _ h
      | cons o l ih =>
        intro a w2 h
        unfold wpList at h ⊢
        split
        · rename_i hw
          rw [if_pos hw] at h
          rcases h with h | ⟨h1, a0, w0, h2⟩
          · exact .inl (oper_wp_mono ih hq h)
          · exact .inr ⟨h1, a0, w0, hq _ _ _ h2⟩
        · rename_i hw
          rw [if_neg hw] at h
          exact ih _ _ h
    exact key _ _ _ this)

end
end Go.Abs

namespace Go.Abs
set_option linter.unusedSimpArgs false
set_option linter.unusedVariables false
open Go

section
variable {P : Program} {G : Globs} {B : Nat} {s : AState} {o : Oper} {r : PV}

theorem ext_same (L : Loc) (H : Heap) (w : World) : Ext L H w L H w := Ext.refl L H w

theorem aop_light (h : ∀ L a w, Interp P G B L s a w → ∃ v, (execOp a.eval o).run P w = .ok (.value v) w ∧ RepV P L w r v) : AOp P G B o s r s.H s.nx := fun L a w hi => by
  obtain ⟨v, hrun, hr⟩ := h L a w hi
  unfold Oper.wp
  rw [hrun, Oper.upon_value]
  exact ⟨v, L, rfl, hr, hi.heap, hi.nx, Mono.refl L w, Ext.refl _ _ _⟩
end

/-- An operator on two plain values. -/
def binV (P : Program) (t : TypeId) (op : BinOp) (x y : Value) : Option Value :=
  match x, y with
  | .int k a, .int k' b =>
    match op with
    | .shl => if b < 0 then none else some (.int k (k.wrap (a * 2 ^ (min b.toNat k.bits))))
    | .shr => if b < 0 then none else some (.int k (a.fdiv (2 ^ (min b.toNat k.bits))))
    | .add => if k = k' then some (.int k (k.wrap (a + b))) else none
    | .sub => if k = k' then some (.int k (k.wrap (a - b))) else none
    | .mul => if k = k' then some (.int k (k.wrap (a * b))) else none
    | .quo => if k = k' then (if b = 0 then none else some (.int k (k.wrap (a.tdiv b)))) else none
    | .rem => if k = k' then (if b = 0 then none else some (.int k (a.tmod b))) else none
    | .and => if k = k' then some (.int k (k.wrap (BitVec.ofInt k.bits a &&& BitVec.ofInt k.bits b).toNat)) else none
    | .or => if k = k' then some (.int k (k.wrap (BitVec.ofInt k.bits a ||| BitVec.ofInt k.bits b).toNat)) else none
    | .xor => if k = k' then some (.int k (k.wrap (BitVec.ofInt k.bits a ^^^ BitVec.ofInt k.bits b).toNat)) else none
    | .andNot => if k = k' then some (.int k (k.wrap (BitVec.ofInt k.bits a &&& ~~~ (BitVec.ofInt k.bits b)).toNat)) else none
    | .eql => if k = k' then some (.bool (a == b)) else none
    | .neq => if k = k' then some (.bool (a != b)) else none
    | .lss => if k = k' then some (.bool (decide (a < b))) else none
    | .leq => if k = k' then some (.bool (decide (a ≤ b))) else none
    | .gtr => if k = k' then some (.bool (decide (b < a))) else none
    | .geq => if k = k' then some (.bool (decide (b ≤ a))) else none
  | .string a, .string b =>
    match op with
    | .add => if a.size + b.size ≤ 9223372036854775807 then some (.string (a ++ b)) else none
    | .eql => some (.bool (a.toList == b.toList))
    | .neq => some (.bool (!(a.toList == b.toList)))
    | .lss => some (.bool (Op.bytesLess a.toList b.toList))
    | .leq => some (.bool (Op.bytesLess a.toList b.toList || a.toList == b.toList))
    | .gtr => some (.bool (!(Op.bytesLess a.toList b.toList || a.toList == b.toList)))
    | .geq => some (.bool (!(Op.bytesLess a.toList b.toList)))
    | _ => none
  | .bool a, .bool b =>
    match op, P.underlying t with
    | .eql, some .bool => some (.bool (a == b))
    | .neq, some .bool => some (.bool (!(a == b)))
    | _, _ => none
  | _, _ => none

theorem equal_bool {P : Program} {t : TypeId} (h : P.underlying t = some .bool) (a b : Bool) (w : World) : (Op.equal t (.bool a) (.bool b)).run P w = .ok (a == b) w := by
  unfold Op.equal
  rw [show Op.maxDepth = 9999 + 1 from rfl]
  generalize 9999 = d
  simp [Op.equalIn, run_underlying h]

theorem binV_run {P : Program} {t : TypeId} {op : BinOp} {x y v : Value} (h : binV P t op x y = some v) (xo yo : Operand) (w : World) :
    (do eqGuard op t xo yo x y; binOp op t x y : Sem Value).run P w = .ok v w := by
  unfold binV at h
  split at h
  · rename_i k a k' b
    rw [eqGuard_at_int]
    cases op <;> simp only at h
    case shl => split at h; · cases h
                rename_i hb; injection h with h; subst h; simp [binOp, Op.shift, hb]
    case shr => split at h; · cases h
                rename_i hb; injection h with h; subst h; simp [binOp, Op.shift, hb]
    case quo => split at h <;> try cases h
                split at h <;> try cases h
                rename_i hk hb; subst hk; simp [binOp, Op.intDiv, hb]
    case rem => split at h <;> try cases h
                split at h <;> try cases h
                rename_i hk hb; subst hk; simp [binOp, Op.intDiv, hb]
    all_goals (split at h <;> try cases h)
    all_goals (rename_i hk; subst hk; simp [binOp, Op.intArith, Op.intBits, Op.intCmp])
  · rename_i a b
    rw [eqGuard_at_string]
    cases op <;> simp only at h <;> try cases h
    case add =>
      split at h
      · rename_i hs
        injection h with h
        subst h
        simp only [binOp, Op.stringOp]
        rw [if_neg (by simp [IntKind.max_i64]; omega)]
        simp
      · cases h
    all_goals (simp [binOp, Op.stringOp])
  · rename_i a b
    rw [eqGuard_at_bool]
    split at h
    · rename_i hu; injection h with h; subst h
      simp [binOp, equal_bool hu]
    · rename_i hu; injection h with h; subst h
      simp [binOp, equal_bool hu]
    · cases h
  · cases h

@[simp] def unV (op : UnOp) (x : Value) : Option Value :=
  match op, x with
  | .not, .bool b => some (.bool (!b))
  | .neg, .int k n => some (.int k (k.wrap (0 - n)))
  | _, _ => none

theorem unV_run {P : Program} {op : UnOp} {x v : Value} (h : unV op x = some v) (w : World) : (Op.unary op x).run P w = .ok v w := by
  unfold unV at h
  split at h
  · injection h with h; subst h; simp [Op.unary]
  · injection h with h; subst h; simp [Op.unary, Op.intArith]
  · cases h

/-- A conversion of a plain value. -/
def convV (P : Program) (src dst : TypeId) (x : Value) : Option Value :=
  match x, P.underlying src, P.underlying dst with
  | .int _ n, some _, some (.int k) => some (.int k (k.wrap n))
  | .string s, some _, some .string => some (.string s)
  | _, _, _ => none

theorem convV_run {P : Program} {src dst : TypeId} {x v : Value} (h : convV P src dst x = some v) (w : World) : (convert src dst x).run P w = .ok v w := by
  unfold convV at h
  split at h
  · rename_i hs hd; injection h with h; subst h
    simp [convert, run_underlying hs, run_underlying hd, Conv.intToInt]
  · rename_i hs hd; injection h with h; subst h
    simp [convert, run_underlying hs, run_underlying hd]
  · cases h

/-- The number of cells of a type, where it is a struct or an array: 'true'. -/
def shapeOf (P : Program) (t : TypeId) : Option (Bool × Nat) :=
  match P.underlying t, P.info? t with
  | some (.struct _), some i => some (true, i.size)
  | some (.array _ _), some i => some (true, i.size)
  | some _, some i => some (false, i.size)
  | _, _ => none

theorem shapeOf_agg {P : Program} {t : TypeId} {b : Bool} {n : Nat} (h : shapeOf P t = some (b, n)) (w : World) : (isAgg t).run P w = .ok b w ∧ (sizeOf t).run P w = .ok n w := by
  unfold shapeOf at h
  split at h
  · rename_i hu hi; injection h with h; injection h with h1 h2; subst h1; subst h2
    simp [isAgg, run_underlying hu, sizeOf, typeInfo, hi]
  · rename_i hu hi; injection h with h; injection h with h1 h2; subst h1; subst h2
    simp [isAgg, run_underlying hu, sizeOf, typeInfo, hi]
  · rename_i d i h1 h2 hu hi; injection h with h; injection h with e1 e2; subst e1; subst e2
    refine ⟨?_, by simp [sizeOf, typeInfo, hi]⟩
    cases d <;> first | exact absurd rfl (h1 _) | exact absurd rfl (h2 _ _) | simp [isAgg, run_underlying hu]
  · cases h

/-- The element's size of a slice's type. -/
def elemOf' (P : Program) (t : TypeId) : Option (TypeId × Nat) :=
  match P.underlying t with
  | some (.slice e) => (P.info? e).map fun i => (e, i.size)
  | _ => none

theorem elemOf'_run {P : Program} {t e : TypeId} {n : Nat} (h : elemOf' P t = some (e, n)) (w : World) : P.underlying t = some (.slice e) ∧ (sizeOf e).run P w = .ok n w := by
  unfold elemOf' at h
  split at h
  · rename_i e' hu
    cases hi : P.info? e' with
    | none => rw [hi] at h; cases h
    | some i =>
      rw [hi] at h
      injection h with h; injection h with h1 h2; subst h1; subst h2
      exact ⟨hu, by simp [sizeOf, typeInfo, hi]⟩
  · cases h

/-- An array's length and element. -/
def arrOf (P : Program) (t : TypeId) : Option (Nat × Nat) :=
  match P.underlying t with
  | some (.array n e) => (P.info? e).map fun i => (n, i.size)
  | _ => none

/-- A list of values without rows. -/
@[simp] def allT : List PV → Option (List T)
  | [] => some []
  | .t x :: r => (allT r).map (x :: ·)
  | _ => none

theorem allT_map : ∀ {ps : List PV} {ts : List T}, allT ps = some ts → ps = ts.map .t
  | [], ts, h => by simp only [allT, Option.some.injEq] at h; simp [← h]
  | p :: r, ts, h => by
    cases p <;> simp only [allT] at h <;> try cases h
    rename_i x
    cases hr : allT r with
    | none => rw [hr] at h; cases h
    | some us => rw [hr] at h; injection h with h; subst h; simp [allT_map hr]

/-- A struct out of its cells. -/
def agOf (ps : List PV) : PV :=
  match allT ps with
  | some ts => .t (.ag ts)
  | none => .ag ps

theorem rep_agOf {P : Program} {L : Loc} {w : World} {ps : List PV} {us : Array Value} (h1 : ∀ x ∈ us.toList, x.oneCell' = true) (h : RepVL P L w ps us.toList) : RepV P L w (agOf ps) (.agg us) := by
  unfold agOf
  cases ha : allT ps with
  | none => simp only [RepV]; exact ⟨us, rfl, h1, h⟩
  | some ts =>
    have := allT_map ha
    subst this
    simp only [RepV, RepT]
    exact ⟨us, rfl, h1, RepVL.toT h⟩

/-- What is read at a pointer. -/
def loadV (P : Program) (H : Heap) (t : TypeId) (p : PV) : Option PV :=
  match shapeOf P t, p with
  | some (true, n), .t (.pt cs) => if n ≤ cs.length then some (.t (.ag (cs.take n))) else none
  | some (false, _), .t (.pt cs) => (cs.head?).map .t
  | some (true, n), .ptr b o => match look H b with
    | some (.cells _ cs) => if o + n ≤ cs.length then some (agOf ((cs.drop o).take n)) else none
    | _ => none
  | some (false, _), .ptr b o => match look H b with
    | some (.cells _ cs) => cs[o]?
    | _ => none
  | _, _ => none

theorem loadCellsFrom_run {P : Program} (w : World) (b o : Nat) : ∀ (n i : Nat) (acc : Array Value) (xs : List Value), xs.length = n → (∀ (j : Nat) x, xs[j]? = some x → w.cell? ⟨b, o + (i + j), none⟩ = some x) →
    (loadCellsFrom ⟨b, o, none⟩ i n acc).run P w = .ok (acc ++ xs.toArray) w
  | 0, i, acc, xs, hl, _ => by
    have : xs = [] := List.eq_nil_of_length_eq_zero hl
    subst this
    simp [loadCellsFrom]
  | n + 1, i, acc, [], hl, _ => by simp at hl
  | n + 1, i, acc, x :: xs, hl, h => by
    have h0 := h 0 x (by simp)
    have := loadCellsFrom_run (P := P) w b o n (i + 1) (acc.push x) xs (by simpa using hl) (fun j y hy => by
      have := h (j + 1) y (by simpa using hy)
      rwa [show i + 1 + j = i + (j + 1) by omega])
    simp only [Nat.add_zero] at h0
    simp only [loadCellsFrom, Addr.add_lit, Sem.run_bind, run_load, h0, Result.andThen_ok, this]
    simp

theorem RepC.values {I : Nat → Prop} {w : World} : ∀ {cs : List T} {b o : Nat}, RepC I w cs b o → ∃ xs : List Value, xs.length = cs.length ∧ (∀ (j : Nat) x, xs[j]? = some x → w.cell? ⟨b, o + j, none⟩ = some x) ∧ (∀ x ∈ xs, x.oneCell' = true) ∧ RepL I w cs xs
  | [], b, o, _ => ⟨[], rfl, by simp, by simp, by simp only [RepL]⟩
  | c :: cs, b, o, h => by
    simp only [RepC] at h
    obtain ⟨⟨x, hx, h1, hc⟩, hcs⟩ := h
    obtain ⟨xs, hl, hcell, h1s, hrep⟩ := RepC.values hcs
    refine ⟨x :: xs, by simp [hl], fun j y hy => ?_, by simpa using ⟨h1, h1s⟩, by simp only [RepL]; exact ⟨x, xs, rfl, hc, hrep⟩⟩
    cases j with
    | zero => simp at hy; subst hy; simpa using hx
    | succ j => have := hcell j y (by simpa using hy); rwa [show o + 1 + j = o + (j + 1) by omega] at this

/-- A row's cells, as values. -/
theorem row_values {P : Program} {L : Loc} {w : World} {g : Nat} {ty : TypeId} {cs : List PV} (h : RowRep P L w g (.cells ty cs)) :
    ∃ xs : List Value, xs.length = cs.length ∧ (∀ (j : Nat) x, xs[j]? = some x → w.cell? ⟨g, j, none⟩ = some x) ∧ (∀ x ∈ xs, x.oneCell' = true) ∧ RepVL P L w cs xs := by
  obtain ⟨arr, ha, hl, hc⟩ := h
  refine ⟨arr.toList.take cs.length, by simp; omega, fun j x hx => ?_, fun x hx => ?_, ?_⟩
  · rw [cell_of_row w g j arr ty (0, 0) ha]
    rw [List.getElem?_take] at hx
    split at hx
    · simpa using hx
    · cases hx
  · obtain ⟨j, hj⟩ := List.getElem?_of_mem hx
    rw [List.getElem?_take] at hj
    split at hj
    · rename_i hjl
      obtain ⟨y, hy, h1, _⟩ := hc j cs[j] (List.getElem?_eq_getElem hjl)
      have h2 : arr.toList[j]? = some y := by simpa using hy
      rw [h2] at hj
      injection hj with hj
      subst hj
      exact h1
    · cases hj
  · refine RepVL.mk (by simp; omega) fun k c x hk hx => ?_
    obtain ⟨y, hy, _, hr⟩ := hc k c hk
    have hk' : k < cs.length := (List.getElem?_eq_some_iff.1 hk).1
    rw [List.getElem?_take, if_pos hk'] at hx
    have : y = x := by
      have h2 : arr.toList[k]? = some y := by simpa using hy
      rw [h2] at hx
      exact Option.some.inj hx
    subst this
    exact hr

theorem RepVL.drop_take {P : Program} {L : Loc} {w : World} {cs : List PV} {xs : List Value} (h : RepVL P L w cs xs) (o n : Nat) : RepVL P L w ((cs.drop o).take n) ((xs.drop o).take n) := by
  refine RepVL.mk (by simp [h.length]) fun k c x hk hx => ?_
  rw [List.getElem?_take] at hk hx
  split at hk
  · rename_i hn
    rw [if_pos hn] at hx
    rw [List.getElem?_drop] at hk hx
    obtain ⟨y, hy, hr⟩ := h.at_ _ hk
    rw [hy] at hx
    injection hx with hx
    subst hx
    exact hr
  · cases hk

theorem loadV_run {P : Program} {G : Globs} {L : Loc} {H : Heap} {w : World} {t : TypeId} {p r : PV} {u : Value} (hok : HeapOK P G L H w) (h : loadV P H t p = some r) (hp : RepV P L w p u) :
    ∃ v, (Instr.loadAt t u).run P w = .ok v w ∧ RepV P L w r v := by
  unfold loadV at h
  split at h
  · rename_i n cs hs
    split at h
    · rename_i hn
      injection h with h; subst h
      simp only [RepV, RepT] at hp ⊢
      obtain ⟨b, o, rfl, hb, hc⟩ := hp
      obtain ⟨xs, hl, hcell, h1s, hrep⟩ := RepC.values (RepC.take n hc)
      have h1 := shapeOf_agg hs w
      have h2 := loadCellsFrom_run (P := P) w b o n 0 #[] xs (by rw [hl]; simp; omega) (fun j x hx => by simpa using hcell j x hx)
      refine ⟨.agg xs.toArray, ?_, xs.toArray, rfl, by simpa using h1s, by simpa using hrep⟩
      simp only [Instr.loadAt, Instr.sureAddr, loadVar, loadCells, Sem.run_bind, Sem.run_pure, Result.andThen_ok, h1.1, h1.2, h2, if_true]
      simp
    · cases h
  · rename_i k cs hs
    cases cs with
    | nil => simp at h
    | cons c cs =>
      simp only [List.head?_cons, Option.map_some, Option.some.injEq] at h
      subst h
      simp only [RepV, RepT, RepC] at hp ⊢
      obtain ⟨b, o, rfl, hb, ⟨x, hx, _, hr⟩, _⟩ := hp
      have h1 := shapeOf_agg hs w
      refine ⟨x, ?_, hr⟩
      simp only [Instr.loadAt, Instr.sureAddr, loadVar, Sem.run_bind, Sem.run_pure, Result.andThen_ok, h1.1]
      simp [hx]
  · rename_i n b o hs
    split at h
    · rename_i ty cs hlook
      split at h
      · rename_i hn
        injection h with h; subst h
        simp only [RepV] at hp
        obtain ⟨hb, rfl⟩ := hp
        obtain ⟨xs, hl, hcell, h1s, hrep⟩ := row_values (hok.rep b _ hlook)
        have h1 := shapeOf_agg hs w
        have hd := hrep.drop_take o n
        have h2 := loadCellsFrom_run (P := P) w (L.μ b) o n 0 #[] ((xs.drop o).take n) (by simp; omega) (fun j x hx => by
          rw [List.getElem?_take] at hx
          split at hx
          · rw [List.getElem?_drop] at hx
            simpa using hcell _ x hx
          · cases hx)
        refine ⟨.agg ((xs.drop o).take n).toArray, ?_, rep_agOf (by simpa using fun x hx => h1s x (List.mem_of_mem_drop (List.mem_of_mem_take hx))) (by simpa using hd)⟩
        simp only [Instr.loadAt, Instr.sureAddr, loadVar, loadCells, Sem.run_bind, Sem.run_pure, Result.andThen_ok, h1.1, h1.2, h2, if_true]
        simp
      · cases h
    · cases h
  · rename_i k b o hs
    split at h
    · rename_i ty cs hlook
      simp only [RepV] at hp
      obtain ⟨hb, rfl⟩ := hp
      obtain ⟨xs, hl, hcell, h1s, hrep⟩ := row_values (hok.rep b _ hlook)
      obtain ⟨x, hx, hr⟩ := hrep.at_ o h
      have h1 := shapeOf_agg hs w
      refine ⟨x, ?_, hr⟩
      simp only [Instr.loadAt, Instr.sureAddr, loadVar, Sem.run_bind, Sem.run_pure, Result.andThen_ok, h1.1]
      simp [hcell o x hx]
    · cases h
  · cases h

/-- The address of an element. -/
def indexAddrV (P : Program) (t : TypeId) (x i : PV) : Option PV :=
  match x, i with
  | .t (.sl n cs), .t (.v (.int _ i)) => match elemOf' P t with
    | some (_, z) => if 0 ≤ i ∧ i < n then some (.t (.pt (cs.drop (i.toNat * z)))) else none
    | none => none
  | .row b o n _, .t (.v (.int _ i)) => match elemOf' P t with
    | some (_, z) => if 0 ≤ i ∧ i < n then some (.ptr b (o + i.toNat * z)) else none
    | none => none
  | .t (.pt cs), .t (.v (.int _ i)) => match arrOf P t with
    | some (n, z) => if 0 ≤ i ∧ i < n then some (.t (.pt (cs.drop (i.toNat * z)))) else none
    | none => none
  | .ptr b o, .t (.v (.int _ i)) => match arrOf P t with
    | some (n, z) => if 0 ≤ i ∧ i < n then some (.ptr b (o + i.toNat * z)) else none
    | none => none
  | _, _ => none

theorem indexAt_slice {P : Program} {t e : TypeId} {z : Nat} (h : elemOf' P t = some (e, z)) (w : World) (b o n c : Nat) (k : IntKind) (i : Int) (hi : 0 ≤ i ∧ i < n) :
    (Instr.indexAt t (.slice (some ⟨b, o, none⟩) n c) (.int k i)).run P w = .ok (.pointer (some ⟨b, o + i.toNat * z, none⟩)) w := by
  obtain ⟨hu, hz⟩ := elemOf'_run h w
  simp [Instr.indexAt, run_underlying hu, asIntOf, hi, hz, Addr.add_lit]

theorem indexAt_array {P : Program} {t : TypeId} {n z : Nat} (h : arrOf P t = some (n, z)) (w : World) (b o : Nat) (k : IntKind) (i : Int) (hi : 0 ≤ i ∧ i < n) :
    (Instr.indexAt t (.pointer (some ⟨b, o, none⟩)) (.int k i)).run P w = .ok (.pointer (some ⟨b, o + i.toNat * z, none⟩)) w := by
  unfold arrOf at h
  split at h
  · rename_i n' e hu
    cases hinf : P.info? e with
    | none => rw [hinf] at h; cases h
    | some inf =>
      rw [hinf] at h
      injection h with h; injection h with h1 h2; subst h1; subst h2
      simp [Instr.indexAt, run_underlying hu, asIntOf, Instr.sureAddr, hi, sizeOf, typeInfo, hinf, Addr.add_lit]
  · cases h

theorem indexAddrV_run {P : Program} {L : Loc} {w : World} {t : TypeId} {x i r : PV} {u j : Value} (h : indexAddrV P t x i = some r) (hx : RepV P L w x u) (hj : RepV P L w i j) :
    ∃ v, (Instr.indexAt t u j).run P w = .ok v w ∧ RepV P L w r v := by
  unfold indexAddrV at h
  split at h
  · split at h
    · rename_i n cs k i' _ e z he
      split at h
      · rename_i hi
        injection h with h; subst h
        simp only [RepV, RepT] at hx hj
        subst hj
        obtain ⟨⟨b, o, sp⟩, c, rfl, hc, hb⟩ := hx
        rcases hb with ⟨rfl, _⟩ | ⟨hsp, hb, hr⟩
        · omega
        · simp only at hsp hb hr
          subst hsp
          refine ⟨_, indexAt_slice he w b o n c k i' hi, ?_⟩
          simp only [RepV, RepT]
          exact ⟨b, _, rfl, hb, hr.drop _⟩
      · cases h
    · cases h
  · split at h
    · rename_i b o n _ k i' _ e z he
      split at h
      · rename_i hi
        injection h with h; subst h
        simp only [RepV, RepT] at hx hj
        subst hj
        obtain ⟨hb, hm, c, rfl, hc, _⟩ := hx
        refine ⟨_, indexAt_slice he w (L.μ b) o n c k i' hi, ?_⟩
        simp only [RepV]
        exact ⟨hb, trivial⟩
      · cases h
    · cases h
  · split at h
    · rename_i cs k i' _ n z he
      split at h
      · rename_i hi
        injection h with h; subst h
        simp only [RepV, RepT] at hx hj
        subst hj
        obtain ⟨b, o, rfl, hb, hr⟩ := hx
        refine ⟨_, indexAt_array he w b o k i' hi, ?_⟩
        simp only [RepV, RepT]
        exact ⟨b, _, rfl, hb, hr.drop _⟩
      · cases h
    · cases h
  · split at h
    · rename_i b o k i' _ n z he
      split at h
      · rename_i hi
        injection h with h; subst h
        simp only [RepV, RepT] at hx hj
        subst hj
        obtain ⟨hb, rfl⟩ := hx
        refine ⟨_, indexAt_array he w (L.μ b) o k i' hi, ?_⟩
        simp only [RepV]
        exact ⟨hb, trivial⟩
      · cases h
    · cases h
  · cases h

/-- A field's place in a struct's type. -/
def fieldOf (P : Program) (t : TypeId) (f : Nat) : Option (Nat × Bool × Nat) :=
  match P.underlying t with
  | some (.struct fs) => match fs[f]? with
    | some fd => match shapeOf P fd.type with
      | some (b, n) => if n = 0 then none else some (fd.offset, b, n)
      | none => none
    | none => none
  | _ => none

def fieldAddrV (P : Program) (t : TypeId) (x : PV) (f : Nat) : Option PV :=
  match fieldOf P t f, x with
  | some (off, _, _), .t (.pt cs) => some (.t (.pt (cs.drop off)))
  | some (off, _, _), .ptr b o => some (.ptr b (o + off))
  | _, _ => none

theorem fieldOf_run {P : Program} {t : TypeId} {f off n : Nat} {b : Bool} (h : fieldOf P t f = some (off, b, n)) :
    ∃ fs fd, P.underlying t = some (.struct fs) ∧ fs[f]? = some fd ∧ fd.offset = off ∧ shapeOf P fd.type = some (b, n) ∧ n ≠ 0 := by
  unfold fieldOf at h
  split at h
  · rename_i fs hu
    split at h
    · rename_i fd hf
      split at h
      · rename_i b' n' hs
        split at h
        · cases h
        · rename_i hn
          injection h with h; injection h with h1 h2; injection h2 with h2 h3
          subst h1; subst h2; subst h3
          exact ⟨fs, fd, hu, hf, rfl, hs, hn⟩
      · cases h
    · cases h
  · cases h

theorem fieldAddrV_run {P : Program} {L : Loc} {w : World} {t : TypeId} {x r : PV} {f : Nat} {u : Value} (h : fieldAddrV P t x f = some r) (hx : RepV P L w x u) :
    ∃ v, (Instr.fieldAt t u f).run P w = .ok v w ∧ RepV P L w r v := by
  have key : ∀ b o off bb n, fieldOf P t f = some (off, bb, n) → (Instr.fieldAt t (.pointer (some ⟨b, o, none⟩)) f).run P w = .ok (.pointer (some ⟨b, o + off, none⟩)) w := by
    intro b o off bb n hf
    obtain ⟨fs, fd, hu, hfd, rfl, hs, hn⟩ := fieldOf_run hf
    have := (shapeOf_agg hs w).2
    simp [Instr.fieldAt, run_underlying hu, hfd, Instr.sureAddr, fieldPlace, this, hn, Addr.add_lit]
  unfold fieldAddrV at h
  split at h
  · rename_i off bb n cs hf
    injection h with h; subst h
    simp only [RepV, RepT] at hx ⊢
    obtain ⟨b, o, rfl, hb, hc⟩ := hx
    exact ⟨_, key b o off bb n hf, b, _, rfl, hb, hc.drop _⟩
  · rename_i off bb n b o hf
    injection h with h; subst h
    simp only [RepV] at hx ⊢
    obtain ⟨hb, rfl⟩ := hx
    exact ⟨_, key _ o off bb n hf, hb, rfl⟩
  · cases h

/-- A field of a struct that is a value. -/
def fieldV (P : Program) (t : TypeId) (x : PV) (f : Nat) : Option PV :=
  match fieldOf P t f, x with
  | some (off, true, n), .t (.ag cs) => if off + n ≤ cs.length then some (.t (.ag ((cs.drop off).take n))) else none
  | some (off, false, _), .t (.ag cs) => (cs[off]?).map .t
  | some (off, true, n), .ag cs => if off + n ≤ cs.length then some (agOf ((cs.drop off).take n)) else none
  | some (off, false, _), .ag cs => cs[off]?
  | _, _ => none

theorem fieldV_run {P : Program} {L : Loc} {w : World} {t : TypeId} {x r : PV} {f : Nat} {u : Value} (h : fieldV P t x f = some r) (hx : RepV P L w x u) :
    ∃ v, (Instr.field t u f).run P w = .ok v w ∧ RepV P L w r v := by
  have toV : ∀ cs : List T, RepV P L w (.t (.ag cs)) u → RepV P L w (.ag (cs.map .t)) u := by
    intro cs hc
    simp only [RepV, RepT] at hc ⊢
    obtain ⟨us, e, h1, hl⟩ := hc
    exact ⟨us, e, h1, RepVL.ofT hl⟩
  have big : ∀ (cs : List PV) off n, fieldOf P t f = some (off, true, n) → off + n ≤ cs.length → RepV P L w (.ag cs) u →
      ∃ us : Array Value, (Instr.field t u f).run P w = .ok (.agg us) w ∧ (∀ x ∈ us.toList, x.oneCell' = true) ∧ RepVL P L w ((cs.drop off).take n) us.toList := by
    intro cs off n hf hn hc
    obtain ⟨fs, fd, hu, hfd, rfl, hs, _⟩ := fieldOf_run hf
    have h1 := shapeOf_agg hs w
    simp only [RepV] at hc
    obtain ⟨us, rfl, h1s, hl⟩ := hc
    refine ⟨us.extract fd.offset (fd.offset + n), ?_, ?_, ?_⟩
    · simp [Instr.field, run_underlying hu, hfd, asAgg, part, h1.1, h1.2]
    · intro x hx
      refine h1s x ?_
      simp only [Array.toList_extract, List.extract_eq_take_drop] at hx
      exact List.mem_of_mem_drop (List.mem_of_mem_take hx)
    · have := hl.drop_take fd.offset n
      simpa [List.extract_eq_take_drop] using this
  have small : ∀ (cs : List PV) off n c, fieldOf P t f = some (off, false, n) → cs[off]? = some c → RepV P L w (.ag cs) u →
      ∃ v, (Instr.field t u f).run P w = .ok v w ∧ RepV P L w c v := by
    intro cs off n c hf hk hc
    obtain ⟨fs, fd, hu, hfd, rfl, hs, _⟩ := fieldOf_run hf
    have h1 := shapeOf_agg hs w
    simp only [RepV] at hc
    obtain ⟨us, rfl, _, hl⟩ := hc
    obtain ⟨v, hv, hr⟩ := hl.at_ _ hk
    refine ⟨v, ?_, hr⟩
    have hv' : us[fd.offset]? = some v := by simpa using hv
    simp [Instr.field, run_underlying hu, hfd, asAgg, part, h1.1, hv']
  unfold fieldV at h
  split at h
  · rename_i off n cs hf
    split at h
    · rename_i hn
      injection h with h; subst h
      obtain ⟨us, hrun, h1s, hl⟩ := big (cs.map .t) off n hf (by simpa using hn) (toV cs hx)
      refine ⟨_, hrun, ?_⟩
      simp only [RepV, RepT]
      refine ⟨us, rfl, h1s, ?_⟩
      rw [← List.map_drop, ← List.map_take] at hl
      exact hl.toT
    · cases h
  · rename_i off n cs hf
    cases hk : cs[off]? with
    | none => rw [hk] at h; cases h
    | some c =>
      rw [hk] at h
      injection h with h; subst h
      exact small (cs.map .t) off n (.t c) hf (by simp [hk]) (toV cs hx)
  · rename_i off n cs hf
    split at h
    · rename_i hn
      injection h with h; subst h
      obtain ⟨us, hrun, h1s, hl⟩ := big cs off n hf hn hx
      exact ⟨_, hrun, rep_agOf h1s hl⟩
    · cases h
  · rename_i off n cs hf
    exact small cs off n r hf h hx
  · cases h

/-- A byte of a string. -/
def indexV (P : Program) (t : TypeId) (x i : PV) : Option PV :=
  match x, i, P.underlying t with
  | .t (.v (.string s)), .t (.v (.int _ i)), some .string => if 0 ≤ i then (s[i.toNat]?).map fun b => .t (.v (.int .u8 b.toNat)) else none
  | _, _, _ => none

theorem indexV_run {P : Program} {L : Loc} {w : World} {t : TypeId} {x i r : PV} {u j : Value} (h : indexV P t x i = some r) (hx : RepV P L w x u) (hj : RepV P L w i j) :
    ∃ v, (Instr.index t u j).run P w = .ok v w ∧ RepV P L w r v := by
  unfold indexV at h
  split at h
  · rename_i s k i' hu
    simp only [RepV, RepT] at hx hj
    subst hx; subst hj
    split at h
    · rename_i hi
      cases hb : s[i'.toNat]? with
      | none => rw [hb] at h; cases h
      | some b =>
        rw [hb] at h
        injection h with h; subst h
        refine ⟨.int .u8 b.toNat, ?_, by simp only [RepV, RepT]⟩
        simp [Instr.index, run_underlying hu, asIntOf, hi, hb]
    · cases h
  · cases h

/-- len. -/
def lenV (P : Program) (t : TypeId) (x : PV) : Option PV :=
  match x, P.underlying t with
  | .t (.v (.string s)), some .string => some (.t (.v (.int .i64 s.size)))
  | .t (.v (.slice _ n _)), some (.slice _) => some (.t (.v (.int .i64 n)))
  | .t (.sl n _), some (.slice _) => some (.t (.v (.int .i64 n)))
  | .row _ _ n _, some (.slice _) => some (.t (.v (.int .i64 n)))
  | _, _ => none

theorem lenV_run {P : Program} {L : Loc} {w : World} {t ty : TypeId} {x r : PV} {u : Value} (h : lenV P t x = some r) (hx : RepV P L w x u) :
    ∃ v, (Builtin.len_ #[t] ty #[u]).run P w = .ok v w ∧ RepV P L w r v := by
  unfold lenV at h
  split at h
  · rename_i s hu
    injection h with h; subst h
    simp only [RepV, RepT] at hx
    subst hx
    exact ⟨.int .i64 s.size, by simp [Builtin.len_, run_underlying hu, goInt], by simp only [RepV, RepT]⟩
  · rename_i n _ _ hu
    injection h with h; subst h
    simp only [RepV, RepT] at hx
    subst hx
    exact ⟨.int .i64 n, by simp [Builtin.len_, run_underlying hu, goInt], by simp only [RepV, RepT]⟩
  · rename_i n cs e hu
    injection h with h; subst h
    simp only [RepV, RepT] at hx
    obtain ⟨a, c, rfl, _⟩ := hx
    exact ⟨.int .i64 n, by simp [Builtin.len_, run_underlying hu, goInt], by simp only [RepV, RepT]⟩
  · rename_i b o n _ e hu
    injection h with h; subst h
    simp only [RepV] at hx
    obtain ⟨_, _, c, rfl, _⟩ := hx
    exact ⟨.int .i64 n, by simp [Builtin.len_, run_underlying hu, goInt], by simp only [RepV, RepT]⟩
  · cases h

/-- A part of a tuple. -/
@[simp] def extractV (x : PV) (i : Nat) : Option PV :=
  match x with
  | .t (.tu cs) => (cs[i]?).map .t
  | .tu cs => cs[i]?
  | _ => none

theorem extractV_run {P : Program} {L : Loc} {w : World} {x r : PV} {i : Nat} {u : Value} (h : extractV x i = some r) (hx : RepV P L w x u) :
    ∃ v, (Instr.extract u i).run P w = .ok v w ∧ RepV P L w r v := by
  have key : ∀ (cs : List PV) c, cs[i]? = some c → RepV P L w (.tu cs) u → ∃ v, (Instr.extract u i).run P w = .ok v w ∧ RepV P L w c v := by
    intro cs c hk hc
    simp only [RepV] at hc
    obtain ⟨us, rfl, hl⟩ := hc
    obtain ⟨v, hv, hr⟩ := hl.at_ _ hk
    have hv' : us[i]? = some v := by simpa using hv
    exact ⟨v, by simp [Instr.extract, hv'], hr⟩
  unfold extractV at h
  split at h
  · rename_i cs
    cases hk : cs[i]? with
    | none => rw [hk] at h; cases h
    | some c =>
      rw [hk] at h
      injection h with h; subst h
      refine key (cs.map .t) (.t c) (by simp [hk]) ?_
      simp only [RepV, RepT] at hx ⊢
      obtain ⟨us, e, hl⟩ := hx
      exact ⟨us, e, RepVL.ofT hl⟩
  · rename_i cs
    exact key cs r h hx
  · cases h

end Go.Abs

namespace Go.Abs
set_option linter.unusedSimpArgs false
set_option linter.unusedVariables false
open Go

/-- A bound of a slice expression. -/
@[simp] def boundV (p : Option PV) (d : Nat) : Option Nat :=
  match p with
  | none => some d
  | some (.t (.v (.int _ i))) => if 0 ≤ i then some i.toNat else none
  | _ => none

theorem sliceBounds_run {P : Program} {w : World} (isSlice : Bool) (n cap : Nat) (hnc : n ≤ cap) {L : Loc} {lo hi : Option PV} {lo' hi' : Option Value} {l h : Nat}
    (hlo : ∀ p, lo = some p → ∃ u, lo' = some u ∧ RepV P L w p u) (hlo0 : lo = none → lo' = none)
    (hhi : ∀ p, hi = some p → ∃ u, hi' = some u ∧ RepV P L w p u) (hhi0 : hi = none → hi' = none)
    (el : boundV lo 0 = some l) (eh : boundV hi n = some h) (hlh : l ≤ h) (hh : h ≤ n) :
    (Instr.sliceBounds isSlice n cap lo' hi' none).run P w = .ok (l, h, cap) w := by
  have bnd : ∀ {p : PV} {u : Value} {d r y : Nat} (c : BoundsCode), RepV P L w p u → boundV (some p) d = some r → r ≤ y → (Instr.sliceBound u y c).run P w = .ok r w := by
    intro p u d r y c hr hb hy
    unfold boundV at hb
    split at hb
    · rename_i heq; cases heq
    · rename_i k i heq
      injection heq with heq
      subst heq
      simp only [RepV, RepT] at hr
      subst hr
      split at hb
      · rename_i hi
        injection hb with hb
        subst hb
        simp only [Instr.sliceBound, asIntOf, Sem.run_bind, Sem.run_pure, Result.andThen_ok]
        rw [if_pos ⟨hi, by omega⟩]
        simp
      · cases hb
    · cases hb
  cases hi with
  | none =>
    have e1 := hhi0 rfl
    subst e1
    simp only [boundV, Option.some.injEq] at eh
    subst eh
    cases lo with
    | none =>
      have e2 := hlo0 rfl
      subst e2
      simp only [boundV, Option.some.injEq] at el
      subst el
      simp [Instr.sliceBounds]
    | some p =>
      obtain ⟨u, rfl, hr⟩ := hlo p rfl
      simp [Instr.sliceBounds, bnd _ hr el hlh]
  | some q =>
    obtain ⟨v, rfl, hq⟩ := hhi q rfl
    cases lo with
    | none =>
      have e2 := hlo0 rfl
      subst e2
      simp only [boundV, Option.some.injEq] at el
      subst el
      simp [Instr.sliceBounds, bnd _ hq eh (by omega : h ≤ cap)]
    | some p =>
      obtain ⟨u, rfl, hr⟩ := hlo p rfl
      simp [Instr.sliceBounds, bnd _ hr el hlh, bnd _ hq eh (by omega : h ≤ cap)]

/-- x[lo:hi]. -/
def sliceV (P : Program) (t : TypeId) (x : PV) (lo hi : Option PV) : Option PV :=
  match x, P.underlying t with
  | .t (.v (.string s)), some .string => match boundV lo 0, boundV hi s.size with
    | some l, some h => if l ≤ h ∧ h ≤ s.size then some (.t (.v (.string (s.extract l h)))) else none
    | _, _ => none
  | .t (.v (.slice none n c)), some (.slice _) => match elemOf' P t, boundV lo 0, boundV hi n with
    | some _, some l, some h => if l = 0 ∧ h = 0 ∧ n = 0 ∧ c = 0 then some (.t (.v (.slice none 0 0))) else none
    | _, _, _ => none
  | .t (.sl n cs), some (.slice _) => match elemOf' P t, boundV lo 0, boundV hi n with
    | some (_, z), some l, some h => if l ≤ h ∧ h ≤ n then some (.t (.sl (h - l) ((cs.drop (l * z)).take ((h - l) * z)))) else none
    | _, _, _ => none
  | .row b o n z, some (.slice _) => match elemOf' P t, boundV lo 0, boundV hi n with
    | some (_, z'), some l, some h => if z' ≠ z then none else if l < h ∧ h ≤ n then some (.row b (o + l * z) (h - l) z) else if l = 0 ∧ h = 0 then some (.row b o 0 z) else if l = h ∧ h ≤ n then some (.t (.sl 0 [])) else none
    | _, _, _ => none
  | _, _ => none

theorem sliceV_run {P : Program} {G : Globs} {L : Loc} {H : Heap} {w : World} (hok : HeapOK P G L H w) {t : TypeId} {x r : PV} {lo hi : Option PV} {u : Value} {lo' hi' : Option Value}
    (hlo : ∀ p, lo = some p → ∃ u, lo' = some u ∧ RepV P L w p u) (hlo0 : lo = none → lo' = none)
    (hhi : ∀ p, hi = some p → ∃ u, hi' = some u ∧ RepV P L w p u) (hhi0 : hi = none → hi' = none)
    (h : sliceV P t x lo hi = some r) (hx : RepV P L w x u) :
    ∃ v, (Instr.sliceAt t u lo' hi' none).run P w = .ok v w ∧ RepV P L w r v := by
  unfold sliceV at h
  split at h
  · rename_i s hu
    split at h
    · rename_i l hh el eh
      split at h
      · rename_i hb
        injection h with h; subst h
        simp only [RepV, RepT] at hx
        subst hx
        have := sliceBounds_run (P := P) (w := w) false s.size s.size (Nat.le_refl _) hlo hlo0 hhi hhi0 el eh hb.1 hb.2
        refine ⟨.string (s.extract l hh), ?_, by simp only [RepV, RepT]⟩
        simp [Instr.sliceAt, Instr.slice, run_underlying hu, this]
      · cases h
    · cases h
  · rename_i n c e hu
    split at h
    · rename_i ez l hh ee el eh
      split at h
      · rename_i hb
        obtain ⟨rfl, rfl, rfl, rfl⟩ := hb
        injection h with h; subst h
        simp only [RepV, RepT] at hx
        subst hx
        obtain ⟨e', z⟩ := ez
        obtain ⟨hu', hz⟩ := elemOf'_run ee w
        have := sliceBounds_run (P := P) (w := w) true 0 0 (Nat.le_refl _) hlo hlo0 hhi hhi0 el eh (Nat.le_refl _) (Nat.le_refl _)
        refine ⟨.slice none 0 0, ?_, by simp only [RepV, RepT]⟩
        simp [Instr.sliceAt, Instr.slice, run_underlying hu', this, hz]
      · cases h
    · cases h
  · rename_i n cs e hu
    split at h
    · rename_i e' z l hh ee el eh
      split at h
      · rename_i hb
        injection h with h; subst h
        simp only [RepV, RepT] at hx
        obtain ⟨a, c, rfl, hc, hI⟩ := hx
        obtain ⟨hu', hz⟩ := elemOf'_run ee w
        have := sliceBounds_run (P := P) (w := w) true n c hc hlo hlo0 hhi hhi0 el eh hb.1 hb.2
        have hrun : (Instr.sliceAt t (.slice (some a) n c) lo' hi' none).run P w = .ok (.slice (if c = l then some a else some (a.add (l * z))) (hh - l) (c - l)) w := by
          simp [Instr.sliceAt, Instr.slice, run_underlying hu', this, hz]
        refine ⟨_, hrun, ?_⟩
        simp only [RepV, RepT]
        by_cases hcl : c = l
        · have h0 : hh - l = 0 := by omega
          rw [if_pos hcl, h0]
          exact ⟨a, c - l, rfl, Nat.zero_le _, .inl ⟨rfl, by simp⟩⟩
        · rw [if_neg hcl]
          refine ⟨a.add (l * z), c - l, rfl, by omega, ?_⟩
          rcases hI with ⟨h1, h2⟩ | ⟨hsp, hb', hr⟩
          · exact .inl ⟨by omega, by simp [h2]⟩
          · obtain ⟨b, o, sp⟩ := a
            simp only at hsp hb' hr
            subst hsp
            rw [Addr.add_lit]
            exact .inr ⟨rfl, hb', (hr.drop _).take _⟩
      · cases h
    · cases h
  · rename_i b o n z e hu
    split at h
    · rename_i e' z' l hh ee el eh
      split at h
      · cases h
      rename_i hzz
      have hzz : z' = z := by simpa using hzz
      subst hzz
      simp only [RepV] at hx
      obtain ⟨hb, hm, c, rfl, hc, hcap⟩ := hx
      obtain ⟨hu', hz⟩ := elemOf'_run ee w
      have hrun : ∀ (_ : l ≤ hh) (_ : hh ≤ n), (Instr.sliceAt t (.slice (some ⟨L.μ b, o, none⟩) n c) lo' hi' none).run P w = .ok (.slice (if c = l then some ⟨L.μ b, o, none⟩ else some ⟨L.μ b, o + l * z', none⟩) (hh - l) (c - l)) w := by
        intro h1 h2
        have := sliceBounds_run (P := P) (w := w) true n c hc hlo hlo0 hhi hhi0 el eh h1 h2
        simp [Instr.sliceAt, Instr.slice, run_underlying hu', this, hz, Addr.add_lit]
      split at h
      · rename_i hlh
        injection h with h; subst h
        refine ⟨_, hrun (by omega) hlh.2, ?_⟩
        rw [if_neg (by omega)]
        simp only [RepV]
        refine ⟨hb, hm, c - l, rfl, by omega, fun arr ty fz he => ?_⟩
        have hcc := hcap arr ty fz he
        have e1 : l * z' + (c - l) * z' = c * z' := by rw [← Nat.add_mul]; congr 1; omega
        omega
      · split at h
        · rename_i hlh
          obtain ⟨rfl, rfl⟩ := hlh
          injection h with h; subst h
          refine ⟨_, hrun (by omega) (by omega), ?_⟩
          simp only [RepV, Nat.zero_mul, Nat.add_zero, ite_self, Nat.sub_zero]
          exact ⟨hb, hm, c, rfl, by omega, hcap⟩
        · split at h
          · rename_i hlh
            obtain ⟨rfl, hle⟩ := hlh
            injection h with h; subst h
            refine ⟨_, hrun (by omega) hle, ?_⟩
            simp only [RepV, RepT, Nat.sub_self]
            by_cases hcl : c = l
            · rw [if_pos hcl]; exact ⟨_, _, rfl, Nat.zero_le _, .inl ⟨trivial, trivial⟩⟩
            · rw [if_neg hcl]; exact ⟨_, _, rfl, Nat.zero_le _, .inl ⟨trivial, trivial⟩⟩
          · cases h
    · cases h
  · cases h

end Go.Abs
