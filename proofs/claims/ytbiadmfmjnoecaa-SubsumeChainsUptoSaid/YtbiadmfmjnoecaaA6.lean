/-
  Rows of the call's own: a new one, one that is written, one that is dropped or gets another number. No statement of the program stands here.
-/
import Derived.Test.YtbiadmfmjnoecaaA5
import Derived.Laws.MakeOwn
namespace Go.Abs
set_option linter.unusedSimpArgs false
set_option linter.unusedVariables false
open Go

/-- H with another row at b. -/
@[simp] def upd {α : Type} : List (Nat × α) → Nat → α → List (Nat × α)
  | [], _, _ => []
  | (k, x) :: r, b, y => if k = b then (k, y) :: r else (k, x) :: upd r b y

/-- H without b. -/
@[simp] def rem {α : Type} : List (Nat × α) → Nat → List (Nat × α)
  | [], _ => []
  | (k, x) :: r, b => if k = b then rem r b else (k, x) :: rem r b

theorem look_upd {α : Type} (b : Nat) (y : α) (j : Nat) : ∀ (H : List (Nat × α)), look (upd H b y) j = if j = b then (look H b).map (fun _ => y) else look H j
  | [] => by simp [upd, look]
  | (k, x) :: r => by
    simp only [upd]
    by_cases hk : k = b
    · rw [if_pos hk]
      simp only [look, hk]
      by_cases hj : b = j
      · simp [hj]
      · simp [hj, Ne.symm hj]
    · rw [if_neg hk]
      simp only [look, look_upd b y j r]
      by_cases hj : k = j
      · have hb : ¬ j = b := by omega
        simp [hj, hb]
      · simp only [if_neg hj, if_neg hk]

theorem look_rem {α : Type} (b j : Nat) : ∀ (H : List (Nat × α)), look (rem H b) j = if j = b then none else look H j
  | [] => by simp [rem, look]
  | (k, x) :: r => by
    simp only [rem]
    by_cases hk : k = b
    · rw [if_pos hk, look_rem b j r]
      simp only [look]
      by_cases hj : j = b
      · simp [hj]
      · simp only [if_neg hj]
        rw [if_neg (by omega)]
    · rw [if_neg hk]
      simp only [look, look_rem b j r]
      by_cases hj : k = j
      · have hb : ¬ j = b := by omega
        simp [hj, hb]
      · simp [hj]

/-- A new number, at block g. -/
def Loc.grow (L : Loc) (g : Nat) : Loc := { I := L.I, μ := fun b => if b = L.nx then g else L.μ b, nx := L.nx + 1 }

theorem RowRep.keep {P : Program} {L L' : Loc} {w w' : World} (h : Mono L w L' w') {g : Nat} {r : Row} (hr : RowRep P L w g r) (hg : w'.heap[g]? = w.heap[g]?) : RowRep P L' w' g r := by
  cases r with
  | cells ty cs =>
    obtain ⟨arr, ha, hl, hc⟩ := hr
    refine ⟨arr, hg.trans ha, hl, fun j c hj => ?_⟩
    obtain ⟨x, hx, h1, hr⟩ := hc j c hj
    exact ⟨x, hx, h1, RepV.keep h c hr⟩
  | iter s pos => exact hg.trans hr

section
variable {P : Program} {G : Globs} {L : Loc} {H : Heap} {w w' : World}

theorem glob_keep {L' : Loc} (hok : HeapOK P G L H w) (hm : Keeps L.I L'.I w w') : ∀ g cs, look G g = some cs → L'.I g ∧ RepC L'.I w' cs g 0 := fun g cs hg =>
  ⟨(hm g (hok.glob g cs hg).1).1, RepC.keep hm cs (hok.glob g cs hg).1 (hok.glob g cs hg).2⟩

theorem mono_push {o : Obj} (hok : HeapOK P G L H w) (hw : w'.heap = w.heap.push o) : Mono L w (L.grow w.heap.size) w' where
  keeps := fun b hb => ⟨hb, by rw [hw, Array.getElem?_push_lt (hok.lt b hb), Array.getElem?_eq_getElem (hok.lt b hb)]⟩
  nx := Nat.le_succ _
  μ := fun b hb => by simp only [Loc.grow]; rw [if_neg (by omega)]
  size := by rw [hw]; simp
  shape := fun g hg arr ty fz he => by
    rw [hw, Array.getElem?_push_lt hg, ← Array.getElem?_eq_getElem hg] at he
    exact ⟨arr, fz, he, rfl⟩

/-- A new row. -/
theorem heap_new {o : Obj} {r : Row} (hok : HeapOK P G L H w) (hout : Outer w w') (hw : w'.heap = w.heap.push o) (hr : RowRep P (L.grow w.heap.size) w' w.heap.size r) :
    HeapOK P G (L.grow w.heap.size) ((L.nx, r) :: H) w' ∧ Mono L w (L.grow w.heap.size) w' ∧ Ext L H w (L.grow w.heap.size) ((L.nx, r) :: H) w' := by
  have hm := mono_push hok hw
  have hsz : w'.heap.size = w.heap.size + 1 := by rw [hw]; simp
  have hold : ∀ g, g < w.heap.size → w'.heap[g]? = w.heap[g]? := fun g hg => by
    rw [hw, Array.getElem?_push_lt hg, Array.getElem?_eq_getElem hg]
  have hμn : (L.grow w.heap.size).μ L.nx = w.heap.size := by simp [Loc.grow]
  have hμo : ∀ b r, look H b = some r → (L.grow w.heap.size).μ b = L.μ b := fun b r hb => hm.μ b (hok.nx b r hb)
  have cases' : ∀ b r', look ((L.nx, r) :: H) b = some r' → (b = L.nx ∧ r' = r) ∨ (b ≠ L.nx ∧ look H b = some r') := by
    intro b r' hl
    simp only [look] at hl
    by_cases hb : L.nx = b
    · rw [if_pos hb] at hl; exact .inl ⟨hb.symm, by simpa using hl.symm⟩
    · rw [if_neg hb] at hl; exact .inr ⟨Ne.symm hb, hl⟩
  refine ⟨⟨?_, ?_, ?_, ?_, ?_, glob_keep hok hm.keeps⟩, hm, ⟨by omega, fun g hg _ => hold g hg, fun g hg => hg, fun g hg => .inl hg, ?_, hm.shape, hout⟩⟩
  · intro b hb
    have := hok.lt b hb
    omega
  · intro b r' hl
    rcases cases' b r' hl with ⟨rfl, rfl⟩ | ⟨_, hl'⟩
    · rw [hμn]; exact hr
    · rw [hμo b r' hl']
      exact (hok.rep b r' hl').keep hm (hold _ (hok.rep b r' hl').lt)
  · intro b r' hl hI
    rcases cases' b r' hl with ⟨rfl, rfl⟩ | ⟨_, hl'⟩
    · rw [hμn] at hI; have := hok.lt _ hI; omega
    · rw [hμo b r' hl'] at hI; exact hok.apart b r' hl' hI
  · intro b b' r1 r2 h1 h2 he
    rcases cases' b r1 h1 with ⟨rfl, rfl⟩ | ⟨hb, h1'⟩ <;> rcases cases' b' r2 h2 with ⟨rfl, rfl⟩ | ⟨hb', h2'⟩
    · rfl
    · rw [hμn, hμo b' r2 h2'] at he; have := (hok.rep b' r2 h2').lt; omega
    · rw [hμn, hμo b r1 h1'] at he; have := (hok.rep b r1 h1').lt; omega
    · rw [hμo b r1 h1', hμo b' r2 h2'] at he; exact hok.inj b b' r1 r2 h1' h2' he
  · intro b r' hl
    rcases cases' b r' hl with ⟨rfl, rfl⟩ | ⟨_, hl'⟩
    · simp [Loc.grow]
    · have := hok.nx b r' hl'; simp only [Loc.grow]; omega
  · rintro g ⟨b, r', hl, rfl⟩
    rcases cases' b r' hl with ⟨rfl, rfl⟩ | ⟨_, hl'⟩
    · left; rw [hμn]; exact Nat.le_refl _
    · right; exact ⟨b, r', hl', (hμo b r' hl').symm⟩

/-- A row's block with other contents, of the same shape. -/
theorem heap_write {b : Nat} {r0 r : Row} (hok : HeapOK P G L H w) (hout : Outer w w') (hl : look H b = some r0) (hsize : w'.heap.size = w.heap.size)
    (hother : ∀ g, g ≠ L.μ b → w'.heap[g]? = w.heap[g]?) (hshape : Shapes w w') (hr : Mono L w L w' → RowRep P L w' (L.μ b) r) :
    HeapOK P G L (upd H b r) w' ∧ Mono L w L w' ∧ Ext L H w L (upd H b r) w' := by
  have hm : Mono L w L w' := by
    refine ⟨fun g hg => ⟨hg, hother g (fun e => hok.apart b r0 hl (e ▸ hg))⟩, Nat.le_refl _, fun _ _ => rfl, by omega, hshape⟩
  have cases' : ∀ k r', look (upd H b r) k = some r' → (k = b ∧ r' = r) ∨ (k ≠ b ∧ look H k = some r') := by
    intro k r' hk
    rw [look_upd] at hk
    by_cases e : k = b
    · rw [if_pos e, hl] at hk; exact .inl ⟨e, by simpa using hk.symm⟩
    · rw [if_neg e] at hk; exact .inr ⟨e, hk⟩
  have back : ∀ k r', look (upd H b r) k = some r' → ∃ r'', look H k = some r'' := by
    intro k r' hk
    rcases cases' k r' hk with ⟨rfl, _⟩ | ⟨_, h⟩
    · exact ⟨r0, hl⟩
    · exact ⟨r', h⟩
  refine ⟨⟨?_, ?_, ?_, ?_, ?_, glob_keep hok hm.keeps⟩, hm, ⟨by omega, ?_, fun g hg => hg, fun g hg => .inl hg, ?_, hshape, hout⟩⟩
  · intro g hg; rw [hsize]; exact hok.lt g hg
  · intro k r' hk
    rcases cases' k r' hk with ⟨rfl, rfl⟩ | ⟨hne, h⟩
    · exact hr hm
    · exact (hok.rep k r' h).keep hm (hother _ (fun e => hne (hok.inj k b r' r0 h hl e)))
  · intro k r' hk
    obtain ⟨r'', h⟩ := back k r' hk
    exact hok.apart k r'' h
  · intro k k' r1 r2 h1 h2 he
    obtain ⟨r1', h1'⟩ := back k r1 h1
    obtain ⟨r2', h2'⟩ := back k' r2 h2
    exact hok.inj k k' r1' r2' h1' h2' he
  · intro k r' hk
    obtain ⟨r'', h⟩ := back k r' hk
    exact hok.nx k r'' h
  · intro g _ hmine
    exact hother g (fun e => hmine ⟨b, r0, hl, e.symm⟩)
  · rintro g ⟨k, r', hk, rfl⟩
    obtain ⟨r'', h⟩ := back k r' hk
    exact .inr ⟨k, r'', h, rfl⟩

/-- Rows may be forgotten. -/
theorem heap_rem (b : Nat) (hok : HeapOK P G L H w) : HeapOK P G L (rem H b) w ∧ Ext L H w L (rem H b) w := by
  have back : ∀ k r, look (rem H b) k = some r → look H k = some r := by
    intro k r hk
    rw [look_rem] at hk
    split at hk
    · cases hk
    · exact hk
  refine ⟨⟨hok.lt, fun k r hk => hok.rep k r (back k r hk), fun k r hk => hok.apart k r (back k r hk), fun k k' r r' h h' => hok.inj k k' r r' (back k r h) (back k' r' h'), fun k r hk => hok.nx k r (back k r hk), hok.glob⟩, ?_⟩
  exact ⟨Nat.le_refl _, fun _ _ _ => rfl, fun _ h => h, fun _ h => .inl h, fun g ⟨k, r, hk, e⟩ => .inr ⟨k, r, back k r hk, e⟩, Shapes.refl w, Outer.refl w⟩

/-- A row gets a new number. -/
theorem heap_move {b : Nat} {r : Row} (hok : HeapOK P G L H w) (hl : look H b = some r) :
    HeapOK P G (L.grow (L.μ b)) ((L.nx, r) :: rem H b) w ∧ Mono L w (L.grow (L.μ b)) w ∧ Ext L H w (L.grow (L.μ b)) ((L.nx, r) :: rem H b) w := by
  have hm : Mono L w (L.grow (L.μ b)) w := ⟨fun g hg => ⟨hg, rfl⟩, Nat.le_succ _, fun k hk => by simp only [Loc.grow]; rw [if_neg (by omega)], Nat.le_refl _, Shapes.refl w⟩
  have hμn : (L.grow (L.μ b)).μ L.nx = L.μ b := by simp [Loc.grow]
  have hμo : ∀ k r', look H k = some r' → (L.grow (L.μ b)).μ k = L.μ k := fun k r' hk => hm.μ k (hok.nx k r' hk)
  have cases' : ∀ k r', look ((L.nx, r) :: rem H b) k = some r' → (k = L.nx ∧ r' = r) ∨ (k ≠ L.nx ∧ k ≠ b ∧ look H k = some r') := by
    intro k r' hk
    simp only [look] at hk
    by_cases hb : L.nx = k
    · rw [if_pos hb] at hk; exact .inl ⟨hb.symm, by simpa using hk.symm⟩
    · rw [if_neg hb, look_rem] at hk
      split at hk
      · cases hk
      · rename_i hne; exact .inr ⟨Ne.symm hb, hne, hk⟩
  refine ⟨⟨hok.lt, ?_, ?_, ?_, ?_, glob_keep hok hm.keeps⟩, hm, ⟨Nat.le_refl _, fun _ _ _ => rfl, fun _ h => h, fun _ h => .inl h, ?_, Shapes.refl w, Outer.refl w⟩⟩
  · intro k r' hk
    rcases cases' k r' hk with ⟨rfl, rfl⟩ | ⟨_, _, h⟩
    · rw [hμn]; exact (hok.rep b r' hl).keep hm rfl
    · rw [hμo k r' h]; exact (hok.rep k r' h).keep hm rfl
  · intro k r' hk hI
    rcases cases' k r' hk with ⟨rfl, rfl⟩ | ⟨_, _, h⟩
    · rw [hμn] at hI; exact hok.apart b r' hl hI
    · rw [hμo k r' h] at hI; exact hok.apart k r' h hI
  · intro k k' r1 r2 h1 h2 he
    rcases cases' k r1 h1 with ⟨rfl, rfl⟩ | ⟨hb, hb2, h1'⟩ <;> rcases cases' k' r2 h2 with ⟨rfl, rfl⟩ | ⟨hb', hb2', h2'⟩
    · rfl
    · rw [hμn, hμo k' r2 h2'] at he; exact absurd (hok.inj b k' _ _ hl h2' he).symm hb2'
    · rw [hμn, hμo k r1 h1'] at he; exact absurd (hok.inj k b _ _ h1' hl he) hb2
    · rw [hμo k r1 h1', hμo k' r2 h2'] at he; exact hok.inj k k' r1 r2 h1' h2' he
  · intro k r' hk
    rcases cases' k r' hk with ⟨rfl, rfl⟩ | ⟨_, _, h⟩
    · simp [Loc.grow]
    · have := hok.nx k r' h; simp only [Loc.grow]; omega
  · rintro g ⟨k, r', hk, rfl⟩
    rcases cases' k r' hk with ⟨rfl, rfl⟩ | ⟨_, _, h⟩
    · right; rw [hμn]; exact ⟨b, r', hl, rfl⟩
    · right; exact ⟨k, r', h, (hμo k r' h).symm⟩

/-- Only the heap counts. -/
theorem HeapOK.of_heap (hok : HeapOK P G L H w) (hout : Outer w w') (hw : w'.heap = w.heap) : HeapOK P G L H w' ∧ Mono L w L w' ∧ Ext L H w L H w' := by
  have hm : Mono L w L w' := ⟨fun g hg => ⟨hg, by rw [hw]⟩, Nat.le_refl _, fun _ _ => rfl, by rw [hw]; exact Nat.le_refl _, fun g _ arr ty fz he => ⟨arr, fz, by rw [← hw]; exact he, rfl⟩⟩
  refine ⟨⟨fun b hb => by rw [hw]; exact hok.lt b hb, fun b r hb => (hok.rep b r hb).keep hm (by rw [hw]), hok.apart, hok.inj, hok.nx, glob_keep hok hm.keeps⟩, hm, ?_⟩
  exact ⟨by rw [hw]; exact Nat.le_refl _, fun g _ _ => by rw [hw], fun _ h => h, fun _ h => .inl h, fun _ h => .inr h, hm.shape, hout⟩

end
end Go.Abs
