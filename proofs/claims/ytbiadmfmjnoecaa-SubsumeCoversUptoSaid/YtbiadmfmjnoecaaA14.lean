/-
  A region that draws its order may be run in one order: the proof. No statement of the program stands here.
-/
import Derived.Test.YtbiadmfmjnoecaaA13
namespace Go.Abs
set_option linter.unusedSimpArgs false
set_option linter.unusedVariables false
open Go

section
variable {P : Program} {G : Globs} {B N : Nat} {Φ : Oracle} {ops : Array Oper}

theorem ready_spec {S : Array Bool} {i : Nat} (h : i ∈ Region.ready .any ops S) : i < ops.size ∧ S.getD i true = false ∧ ∃ o, ops[i]? = some o ∧ ∀ e ∈ o.after.toList, Region.binds .any e = true → S.getD e.on false = true := by
  unfold Region.ready at h
  obtain ⟨h1, h2⟩ := List.mem_filter.1 h
  simp only [List.mem_range] at h1
  simp only [Bool.and_eq_true, Bool.not_eq_true'] at h2
  refine ⟨h1, h2.1, ops[i], Array.getElem?_eq_getElem h1, fun e he hb => ?_⟩
  have := h2.2
  rw [Array.getElem?_eq_getElem h1] at this
  simp only [Option.map_some, Option.getD_some] at this
  rw [Array.all_eq_true'] at this
  have := this e (Array.mem_def.2 he)
  simpa [hb] using this

theorem ready_mk {S : Array Bool} {i : Nat} {o : Oper} (ho : ops[i]? = some o) (h2 : S.getD i true = false) (h3 : ∀ e ∈ o.after.toList, Region.binds .any e = true → S.getD e.on false = true) : i ∈ Region.ready .any ops S := by
  unfold Region.ready
  refine List.mem_filter.2 ⟨by simpa using (Array.getElem?_eq_some_iff.1 ho).1, ?_⟩
  simp only [h2, ho, Option.map_some, Option.getD_some, Bool.not_false, Bool.true_and]
  rw [Array.all_eq_true']
  intro e he
  cases hb : Region.binds .any e with
  | false => simp
  | true => simp [h3 e (Array.mem_def.1 he) hb]

theorem getD_both {S : Array Bool} {i : Nat} (h : i < S.size) : S.getD i true = S.getD i false := by
  simp [Array.getD_eq_getD_getElem?, h]

theorem getD_set (S : Array Bool) (i j : Nat) (h : i < S.size) : (S.setIfInBounds i true).getD j false = if i = j then true else S.getD j false := by
  simp only [Array.getD_eq_getD_getElem?]
  by_cases e : i = j
  · subst e; simp [h]
  · simp [e, Array.getElem?_setIfInBounds_ne e]

def cnt (S : Array Bool) : Nat := S.toList.count true

theorem cnt_set {S : Array Bool} {i : Nat} (h : i < S.size) (hf : S.getD i false = false) : cnt (S.setIfInBounds i true) = cnt S + 1 := by
  unfold cnt
  rw [Array.toList_setIfInBounds, List.count_set (by simpa using h)]
  have : S.toList[i]'(by simpa using h) = false := by
    simp only [Array.getD_eq_getD_getElem?] at hf
    rw [Array.getElem?_eq_getElem h] at hf
    simpa using hf
  rw [this]
  simp

theorem cnt_full {S : Array Bool} (h : S.size ≤ cnt S) : ∀ i, i < S.size → S.getD i false = true := by
  intro i hi
  have hle : cnt S ≤ S.size := by unfold cnt; have := List.count_le_length (a := true) (l := S.toList); simpa using this
  have he : S.toList.count true = S.toList.length := by
    unfold cnt at h hle
    have : S.toList.length = S.size := by simp
    omega
  have := List.count_eq_length.1 he S.toList[i] (by simp)
  simp only [Array.getD_eq_getD_getElem?, Array.getElem?_eq_getElem hi, Option.getD_some]
  simpa using this.symm

/-! The run in one order, step by step. -/

/-- A step: the value, and the state behind it. -/
def Did (Φ : Oracle) (s : AState) (m : Mini) (v : PV) (s' : AState) : Prop :=
  (quietK m.k = true ∧ valQ Φ s m = some v ∧ s' = s.put m.dst v) ∨
  (quietK m.k = false ∧ m.wants s.env = some false ∧ v = .t (.v undef) ∧ s' = s.put m.dst v) ∨
  (quietK m.k = false ∧ m.wants s.env = some true ∧ ∃ H' nx', evalK Φ s.H s.nx m.k (m.xs.map (·.ev s.env)) = some (v, H', nx') ∧ s' = ({ s with H := H', nx := nx' } : AState).put m.dst v)

theorem stepD_did {s s' : AState} {m : Mini} (h : stepD Φ s m = some s') : ∃ v, Did Φ s m v s' := by
  unfold stepD at h
  split at h
  · rename_i hq
    split at h
    · rename_i v hv; injection h with h; exact ⟨v, .inl ⟨hq, hv, h.symm⟩⟩
    · cases h
  · rename_i hq
    have hq : quietK m.k = false := by simpa using hq
    unfold stepM at h
    split at h
    · rename_i hw
      split at h
      · rename_i r H' nx' he; injection h with h; exact ⟨r, .inr (.inr ⟨hq, hw, H', nx', he, h.symm⟩)⟩
      · cases h
    · rename_i hw; injection h with h; exact ⟨_, .inr (.inl ⟨hq, hw, rfl, h.symm⟩)⟩
    · cases h

theorem runD_trace : ∀ (l : List Mini) {s s' : AState}, runD Φ l s = some s' → ∃ (st : Nat → AState) (vals : Nat → PV), st 0 = s ∧ st l.length = s' ∧ ∀ (p : Nat) m, l[p]? = some m → Did Φ (st p) m (vals p) (st (p + 1))
  | [], s, s', h => by
    simp only [runD, Option.some.injEq] at h
    exact ⟨fun _ => s, fun _ => .dead, rfl, h, by simp⟩
  | q :: r, s, s', h => by
    simp only [runD] at h
    split at h
    · rename_i s1 h1
      obtain ⟨v, hd⟩ := stepD_did h1
      obtain ⟨st, vals, h0, hl, hall⟩ := runD_trace r h
      refine ⟨fun p => match p with | 0 => s | p + 1 => st p, fun p => match p with | 0 => v | p + 1 => vals p, rfl, by simpa using hl, fun p m hp => ?_⟩
      cases p with
      | zero => simp only [List.getElem?_cons_zero, Option.some.injEq] at hp; subst hp; simp only; rw [h0]; exact hd
      | succ p => simpa using hall p m (by simpa using hp)
    · cases h

theorem did_env {s s' : AState} {m : Mini} {v : PV} (h : Did Φ s m v s') : s'.env = (s.put m.dst v).env ∧ s'.n = s.n := by
  rcases h with ⟨_, _, rfl⟩ | ⟨_, _, _, rfl⟩ | ⟨_, _, H', nx', _, rfl⟩
  · exact ⟨rfl, put_n⟩
  · exact ⟨rfl, put_n⟩
  · refine ⟨?_, by rw [put_n]⟩
    cases m.dst <;> rfl

theorem did_quiet {s s' : AState} {m : Mini} {v : PV} (h : Did Φ s m v s') (hq : quietK m.k = true) : s'.H = s.H ∧ s'.nx = s.nx := by
  rcases h with ⟨_, _, rfl⟩ | ⟨hf, _⟩ | ⟨hf, _⟩
  · exact ⟨put_H, put_nx⟩
  · rw [hq] at hf; cases hf
  · rw [hq] at hf; cases hf

/-- Numbers of rows are below the next one. -/
def Fresh (s : AState) : Prop := ∀ b r, look s.H b = some r → b < s.nx

theorem fresh_cons {H : Heap} {nx : Nat} {r : Row} (h : ∀ b r, look H b = some r → b < nx) : ∀ b r', look ((nx, r) :: H) b = some r' → b < nx + 1 := by
  intro b r' hb
  simp only [look] at hb
  by_cases e : nx = b
  · omega
  · rw [if_neg e] at hb; have := h b r' hb; omega

theorem evalK_heavy (hΦ : Φ.Sound P G) {H H' : Heap} {nx nx' : Nat} {k : MK} {ps : List PV} {v : PV} (hq : quietK k = false) (h : evalK Φ H nx k ps = some (v, H', nx')) (hf : ∀ b r, look H b = some r → b < nx) :
    (∀ b r, look H' b = some r → b < nx') ∧ (allocK k = true → ∀ b r, look H b = some r → look H' b = some r) := by
  have new : ∀ {row : Row}, (∀ b r, look ((nx, row) :: H) b = some r → b < nx + 1) ∧ (∀ b r, look H b = some r → look ((nx, row) :: H) b = some r) := by
    intro row
    refine ⟨fresh_cons hf, fun b r hb => ?_⟩
    have := hf b r hb
    simp only [look]
    rw [if_neg (by omega)]
    exact hb
  cases k <;> simp only [quietK] at hq <;> try (cases hq; done)
  case store n =>
    refine ⟨?_, fun ha => by simp [allocK] at ha⟩
    rcases ps with _ | ⟨p, _ | ⟨x, _ | ⟨y, r⟩⟩⟩ <;> simp only [evalK] at h <;> try (cases h; done)
    obtain ⟨H1, hs, e⟩ := map_opt h
    injection e with e1 e2; injection e2 with e2 e3; subst e2; subst e3
    unfold storeM at hs
    split at hs
    · rename_i b o
      split at hs
      · split at hs
        · rename_i ty cs hl
          split at hs
          · injection hs with hs; subst hs
            intro j r hj
            rw [look_upd] at hj
            split at hj
            · rename_i e; subst e; exact hf _ _ hl
            · exact hf j r hj
          · cases hs
        · cases hs
      · cases hs
    · cases hs
  case make e n by' zc =>
    rcases ps with _ | ⟨p, _ | ⟨x, _ | ⟨y, r⟩⟩⟩ <;> simp only [evalK] at h <;> try (cases h; done)
    obtain ⟨q, hs, e⟩ := map_opt h
    injection e with e1 e2; injection e2 with e2 e3; subst e2; subst e3
    exact ⟨new.1, fun _ => new.2⟩
  case bslice e n zc len idx =>
    simp only [evalK] at h
    obtain ⟨q, hs, e⟩ := map_opt h
    injection e with e1 e2; injection e2 with e2 e3; subst e2; subst e3
    exact ⟨new.1, fun _ => new.2⟩
  case box t =>
    rcases ps with _ | ⟨p, _ | ⟨x, r⟩⟩ <;> simp only [evalK] at h <;> try (cases h; done)
    obtain ⟨q, hs, e⟩ := map_opt h
    injection e with e1 e2; injection e2 with e2 e3; subst e2; subst e3
    exact ⟨new.1, fun _ => new.2⟩
  case alloc t zc =>
    rcases ps with _ | ⟨p, r⟩ <;> simp only [evalK] at h <;> try (cases h; done)
    injection h with e; injection e with e1 e2; injection e2 with e2 e3; subst e2; subst e3
    exact ⟨new.1, fun _ => new.2⟩
  case app e z by' =>
    refine ⟨?_, fun ha => by simp [allocK] at ha⟩
    rcases ps with _ | ⟨d, _ | ⟨x, _ | ⟨y, r⟩⟩⟩ <;> simp only [evalK] at h <;> try (cases h; done)
    unfold appM at h
    split at h
    · split at h
      · split at h
        · split at h
          · injection h with h; injection h with e1 e2; injection e2 with e2 e3; subst e2; subst e3; exact hf
          · split at h
            · injection h with h; injection h with e1 e2; injection e2 with e2 e3; subst e2; subst e3; exact new.1
            · cases h
        · cases h
      · split at h
        · split at h
          · injection h with h; injection h with e1 e2; injection e2 with e2 e3; subst e2; subst e3
            refine fresh_cons fun b r hb => ?_
            rw [look_rem] at hb
            split at hb
            · cases hb
            · exact hf b r hb
          · cases h
        · cases h
      · cases h
    · cases h
  case hcall f =>
    refine ⟨?_, fun ha => by simp [allocK] at ha⟩
    simp only [evalK] at h
    exact hΦ.fresh _ _ _ _ _ _ _ h hf
  case callv =>
    refine ⟨?_, fun ha => by simp [allocK] at ha⟩
    rcases ps with _ | ⟨fv, ps⟩
    · simp [evalK] at h
    · simp only [evalK] at h
      unfold callvM at h
      split at h
      · exact hΦ.fresh _ _ _ _ _ _ _ h hf
      · exact hΦ.fresh _ _ _ _ _ _ _ h hf
      · cases h

theorem did_fresh (hΦ : Φ.Sound P G) {s s' : AState} {m : Mini} {v : PV} (h : Did Φ s m v s') (hf : Fresh s) : Fresh s' ∧ (allocK m.k = true ∨ quietK m.k = true → ∀ b r, look s.H b = some r → look s'.H b = some r) := by
  rcases h with ⟨hq, _, rfl⟩ | ⟨hq, _, _, rfl⟩ | ⟨hq, _, H', nx', he, rfl⟩
  · unfold Fresh; rw [put_H, put_nx]; exact ⟨hf, fun _ b r hb => hb⟩
  · unfold Fresh; rw [put_H, put_nx]; exact ⟨hf, fun _ b r hb => hb⟩
  · have := evalK_heavy hΦ hq he hf
    unfold Fresh
    rw [put_H, put_nx]
    refine ⟨this.1, fun ha => ?_⟩
    rcases ha with ha | ha
    · exact this.2 ha
    · rw [hq] at ha; cases ha

/-! A quiet operation's value does not change where rows are added. -/

mutual
theorem toT_mono {H H' : Heap} (hh : ∀ b r, look H b = some r → look H' b = some r) : ∀ (p : PV) {q : T × List Nat}, toT H p = some q → toT H' p = some q
  | .t x, q, h => by simpa only [toT] using h
  | .row b o n z, q, h => by
    simp only [toT] at h ⊢
    split at h
    · rename_i ty cs hl
      rw [hh b _ hl]
      exact h
    · cases h
  | .ag cs, q, h => by
    simp only [toT] at h ⊢
    obtain ⟨a, ha, rfl⟩ := map_opt h
    rw [toTs_mono hh cs ha]
    rfl
  | .tu cs, q, h => by
    simp only [toT] at h ⊢
    obtain ⟨a, ha, rfl⟩ := map_opt h
    rw [toTs_mono hh cs ha]
    rfl
  | .ptr _ _, q, h => by simp [toT] at h
  | .fn _ _ _, q, h => by simp [toT] at h
  | .ic _ _, q, h => by simp [toT] at h
  | .mp _, q, h => by simp [toT] at h
  | .dead, q, h => by simp [toT] at h
theorem toTs_mono {H H' : Heap} (hh : ∀ b r, look H b = some r → look H' b = some r) : ∀ (ps : List PV) {q : List T × List Nat}, toTs H ps = some q → toTs H' ps = some q
  | [], q, h => by simpa only [toTs] using h
  | p :: ps, q, h => by
    simp only [toTs] at h ⊢
    split at h
    · rename_i x F xs F' h1 h2
      rw [toT_mono hh p h1, toTs_mono hh ps h2]
      exact h
    · cases h
end

theorem evalK_indep {H H' : Heap} {nx nx' : Nat} {k : MK} {ps : List PV} {q : PV × Heap × Nat} (hk : indepK k = true) (h : evalK Φ H nx k ps = some q) : evalK Φ H' nx' k ps = some (q.1, H', nx') := by
  cases k <;> (first | (simp only [indepK, quietK, Bool.false_eq_true] at hk; done) | skip)
  case slstr lo hi =>
    cases lo <;> cases hi <;> rcases ps with _ | ⟨a, _ | ⟨b, _ | ⟨c, _ | ⟨d, r⟩⟩⟩⟩ <;> simp only [evalK] at h ⊢ <;> (first | (cases h; done) | (obtain ⟨x, hx, rfl⟩ := map_opt h; rw [hx]; rfl))
  case slice z lo hi =>
    cases lo <;> cases hi <;> rcases ps with _ | ⟨a, _ | ⟨b, _ | ⟨c, _ | ⟨d, r⟩⟩⟩⟩ <;> simp only [evalK] at h ⊢ <;> (first | (cases h; done) | (obtain ⟨x, hx, rfl⟩ := map_opt h; rw [hx]; rfl))
  case bin isB op nk =>
    rcases ps with _ | ⟨a, _ | ⟨b, _ | ⟨c, r⟩⟩⟩ <;> simp only [evalK] at h ⊢ <;> (first | (cases h; done) | skip)
    split at h
    · split at h
      · rename_i hb; injection h with h; subst h; simp only [hb]
      · rename_i hb; obtain ⟨x, hx, rfl⟩ := map_opt h; simp only [hb, hx, Option.map_some]
    · rename_i hne
      obtain ⟨x, hx, rfl⟩ := map_opt h
      rw [hx]; rfl
  case pick =>
    rcases ps with _ | ⟨a, _ | ⟨b, _ | ⟨c, _ | ⟨d, r⟩⟩⟩⟩ <;> simp only [evalK] at h ⊢ <;> (first | (cases h; done) | skip)
    split at h
    · injection h with h; subst h; rfl
    · cases h
  case un op =>
    rcases ps with _ | ⟨a, _ | ⟨b, r⟩⟩ <;> simp only [evalK] at h ⊢ <;> (first | (cases h; done) | skip)
    split at h
    · obtain ⟨x, hx, rfl⟩ := map_opt h; rw [hx]; rfl
    · cases h
  case tslice e n zc len idx => simp only [evalK] at h ⊢; obtain ⟨x, hx, rfl⟩ := map_opt h; rw [hx]; rfl
  case build places zc idx => simp only [evalK] at h ⊢; obtain ⟨x, hx, rfl⟩ := map_opt h; rw [hx]; rfl
  case barr n zc idx => simp only [evalK] at h ⊢; obtain ⟨x, hx, rfl⟩ := map_opt h; rw [hx]; rfl
  case mv =>
    rcases ps with _ | ⟨a, _ | ⟨b, r⟩⟩ <;> simp only [evalK] at h ⊢ <;> (first | (cases h; done) | (injection h with h; subst h; rfl))
  all_goals
    rcases ps with _ | ⟨a, _ | ⟨b, _ | ⟨c, r⟩⟩⟩ <;> simp only [evalK] at h ⊢ <;> (first | (cases h; done) | (obtain ⟨x, hx, rfl⟩ := map_opt h; rw [hx]; rfl))

theorem evalQ_indep {H H' : Heap} {nx nx' : Nat} {k : MK} {ps : List PV} {v : PV} (hk : indepK k = true) (h : evalQ Φ H nx k ps = some v) : evalQ Φ H' nx' k ps = some v := by
  unfold evalQ at h ⊢
  split at h
  · rename_i hq
    rw [if_pos hq]
    split at h
    · simp [indepK] at hk
    · obtain ⟨q, hq', rfl⟩ := map_opt h
      rw [evalK_indep hk hq']
      rfl
  · cases h

theorem evalQ_mono {H H' : Heap} {nx nx' : Nat} {k : MK} {ps : List PV} {v : PV} (hh : ∀ b r, look H b = some r → look H' b = some r) (h : evalQ Φ H nx k ps = some v) : evalQ Φ H' nx' k ps = some v := by
  by_cases hk : indepK k = true
  · exact evalQ_indep hk h
  · cases k <;> (first | (exact absurd rfl hk) | skip)
    case load agg n =>
      unfold evalQ at h ⊢
      simp only [quietK, if_true] at h ⊢
      obtain ⟨q, hq, rfl⟩ := map_opt h
      rcases ps with _ | ⟨p, _ | ⟨x, r⟩⟩ <;> simp only [evalK] at hq ⊢ <;> try (cases hq; done)
      obtain ⟨a, ha, rfl⟩ := map_opt hq
      have : loadM agg n H' p = some a := by
        unfold loadM at ha ⊢
        split at ha
        · exact ha
        · split at ha
          · rename_i hl; rw [hh _ _ hl]; exact ha
          · cases ha
        · cases ha
      rw [this]
      rfl
    case call f =>
      unfold evalQ at h ⊢
      simp only [quietK, if_true] at h ⊢
      split at h
      · rename_i targs F hT
        rw [toTs_mono hh ps hT]
        exact h
      · cases h
    all_goals (unfold evalQ at h; simp [quietK] at h)

/-! What the check says. -/

variable {l : List Mini} {π : List Nat}

structure DrawOK (ops : Array Oper) (q : List (Nat × Mini)) : Prop where
  back : ∀ (i : Nat) o, ops[i]? = some o → ∀ e ∈ o.after.toList, Region.binds .any e = true → e.on < i
  pair : ∀ (p p' : Nat) x y, p < p' → q[p]? = some x → q[p']? = some y → okPair (ancs ops.toList []) x y = true
  all : ∀ i, i < ops.size → ∃ (p : Nat) (m : Mini), q[p]? = some (i, m)

theorem allPairs_spec {A : List Nat} : ∀ {q : List (Nat × Mini)}, allPairs A q = true → ∀ (p p' : Nat) x y, p < p' → q[p]? = some x → q[p']? = some y → okPair A x y = true
  | [], _, p, p', x, y, _, h, _ => by simp at h
  | a :: q, hq, p, p', x, y, hlt, h, h' => by
    simp only [allPairs, Bool.and_eq_true] at hq
    cases p' with
    | zero => omega
    | succ p' =>
      simp only [List.getElem?_cons_succ] at h'
      cases p with
      | zero =>
        simp only [List.getElem?_cons_zero, Option.some.injEq] at h
        subst h
        exact List.all_eq_true.1 hq.1 y (List.mem_of_getElem? h')
      | succ p => exact allPairs_spec hq.2 p p' x y (by omega) (by simpa using h) h'

theorem ordered_spec (l : List Mini) : ∀ (π : List Nat) (p : Nat) x, (ordered l π)[p]? = some x → l[x.1]? = some x.2 := by
  intro π p x h
  have := List.mem_of_getElem? h
  unfold ordered at this
  obtain ⟨i, _, hi⟩ := List.mem_filterMap.1 this
  obtain ⟨m, hm, rfl⟩ := map_opt hi
  exact hm

theorem drawM_spec (hl : ops.size = l.length) (h : drawM ops l π = true) : DrawOK ops (ordered l π) ∧ (ordered l π).length = l.length ∧ ((ordered l π).map Prod.fst).Nodup := by
  unfold drawM at h
  simp only [Bool.and_eq_true, decide_eq_true_eq, beq_iff_eq] at h
  obtain ⟨⟨⟨⟨h1, h2⟩, h3⟩, h4⟩, h5⟩ := h
  refine ⟨⟨fun i o ho e he hb => ?_, allPairs_spec h5, fun i hi => ?_⟩, h2, ?_⟩
  · have hq : (o, i) ∈ ops.toList.zipIdx := by
      rw [List.mem_zipIdx_iff_getElem?]
      simpa using ho
    have := List.all_eq_true.1 (List.all_eq_true.1 h1 _ hq) e he
    simpa [hb] using this
  · have hc := List.all_eq_true.1 h3 i (by simp; omega)
    have hmem : i ∈ π := by simpa using hc
    have : (i, l[i]'(by omega)) ∈ ordered l π := List.mem_filterMap.2 ⟨i, hmem, by rw [List.getElem?_eq_getElem (by omega)]; rfl⟩
    obtain ⟨p, hp⟩ := List.getElem?_of_mem this
    exact ⟨p, _, hp⟩
  · have : (ordered l π).map Prod.fst = π.filter (fun i => (l[i]?).isSome) := by
      unfold ordered
      clear h1 h2 h3 h4 h5
      induction π with
      | nil => rfl
      | cons i π ih =>
        simp only [List.filterMap_cons, List.filter_cons]
        cases hi : l[i]? with
        | none => simpa using ih
        | some m => simpa using ih
    rw [this]
    exact h4.filter _

/-! The proof. -/

theorem look_trace {ms : List Mini} {st : Nat → AState} {vals : Nat → PV} {s : AState} (h0 : st 0 = s) (hall : ∀ (p : Nat) m, ms[p]? = some m → Did Φ (st p) m (vals p) (st (p + 1))) : ∀ (p : Nat), p ≤ ms.length → ∀ k q, look (st p).env k = some q →
    (∃ j m, j < p ∧ ms[j]? = some m ∧ m.dst = some k ∧ q = vals j) ∨ ((∀ j m, j < p → ms[j]? = some m → m.dst ≠ some k) ∧ look s.env k = some q)
  | 0, _, k, q, h => .inr ⟨fun j m hj => by omega, by rw [h0] at h; exact h⟩
  | p + 1, hp, k, q, h => by
    obtain ⟨m, hm⟩ : ∃ m, ms[p]? = some m := ⟨_, List.getElem?_eq_getElem (by omega)⟩
    rw [(did_env (hall p m hm)).1] at h
    rcases look_put h with ⟨e, rfl⟩ | ⟨e, h'⟩
    · exact .inl ⟨p, m, by omega, hm, e, rfl⟩
    · rcases look_trace h0 hall p (by omega) k q h' with ⟨j, mj, hj, hmj, hd, hq⟩ | ⟨hno, hs⟩
      · exact .inl ⟨j, mj, by omega, hmj, hd, hq⟩
      · refine .inr ⟨fun j mj hj hmj => ?_, hs⟩
        by_cases ej : j = p
        · subst ej; rw [hm] at hmj; injection hmj with hmj; subst hmj; exact e
        · exact hno j mj (by omega) hmj

/-- The moment at which the operations of S are done, of those that change rows those before p0. -/
structure InvD (P : Program) (G : Globs) (B : Nat) (q : List (Nat × Mini)) (st : Nat → AState) (vals : Nat → PV) (s : AState) (L0 : Loc) (w0 : World) (S : Array Bool) (p0 : Nat) (L : Loc) (a : Act) (w : World) : Prop where
  le : p0 ≤ q.length
  done : ∀ (p : Nat) x, q[p]? = some x → quietK x.2.k = false → (S.getD x.1 false = true ↔ p < p0)
  heap : HeapOK P G L (st p0).H w
  nx : L.nx = (st p0).nx
  base : B ≤ L.nx
  size : a.tmps.size = s.n
  defers : a.defers = []
  vals : ∀ (p : Nat) x, q[p]? = some x → S.getD x.1 false = true → ∀ k, x.2.dst = some k → RepV P L w (vals p) (a.tmps.getD k undef)
  old : ∀ k u, (∀ (p : Nat) x, q[p]? = some x → S.getD x.1 false = true → x.2.dst ≠ some k) → look s.env k = some u → RepV P L w u (a.tmps.getD k undef)
  ext : Ext L0 s.H w0 L (st p0).H w
  μ : ∀ b, b < B → L.μ b = L0.μ b

theorem acode_draw (hmix : P.follows .mixedOrders = true) (hΦ : Φ.Sound P G) {Q : Exit → AState → Prop} {s s2 : AState} {id : Nat} (ha0 : ops.toList.mapM (compMini P G N true ops) = some l) (hd0 : drawM ops l π = true)
    (hn : s.n = N) (hrun : runD Φ ((ordered l π).map Prod.snd) s = some s2) (hq : Q .normal s2) : ACode P G B (.region id ops true) Q s := by
  intro L0 a0 w0 hi0
  have ha := alike_of_mapM ha0
  have hlen : ops.size = l.length := by have := (ha.at_ 0).2; simpa using this
  obtain ⟨hd, hql, hnodup⟩ := drawM_spec hlen hd0
  obtain ⟨st, vals, h0, hlast, hall⟩ := runD_trace _ hrun
  simp only [List.length_map] at hlast
  generalize hq' : ordered l π = q at *
  have hmem : ∀ (p : Nat) x, q[p]? = some x → l[x.1]? = some x.2 := by intro p x hx; rw [← hq'] at hx; exact ordered_spec l π p x hx
  have hms : ∀ (p : Nat) x, q[p]? = some x → (q.map Prod.snd)[p]? = some x.2 := by intro p x hx; simp [hx]
  have step : ∀ (p : Nat) x, q[p]? = some x → Did Φ (st p) x.2 (vals p) (st (p + 1)) := fun p x hx => hall p x.2 (hms p x hx)
  have uniq : ∀ (p p' : Nat) x y, q[p]? = some x → q[p']? = some y → x.1 = y.1 → p = p' := by
    intro p p' x y hx hy e
    have h1 : (q.map Prod.fst)[p]? = some x.1 := by simp [hx]
    have h2 : (q.map Prod.fst)[p']? = some x.1 := by simp [hy, e]
    have hp := (List.getElem?_eq_some_iff.1 h1).1
    exact (List.getElem?_inj hp hnodup).1 (h1.trans h2.symm)
  have fresh : ∀ p, p ≤ q.length → Fresh (st p) := by
    intro p
    induction p with
    | zero => intro _; rw [h0]; exact fun b r hb => by have := hi0.heap.nx b r hb; rw [hi0.nx] at this; exact this
    | succ p ih =>
      intro hp
      have hx : q[p]? = some q[p] := List.getElem?_eq_getElem (by omega)
      exact (did_fresh hΦ (step p _ hx) (ih (by omega))).1
  -- no change of rows between
  have flat : ∀ (a b : Nat), a ≤ b → b ≤ q.length → (∀ (p : Nat) x, a ≤ p → p < b → q[p]? = some x → quietK x.2.k = true) → (st b).H = (st a).H ∧ (st b).nx = (st a).nx := by
    intro a b hab
    induction b with
    | zero => intro _ _; have : a = 0 := by omega
              subst this; exact ⟨rfl, rfl⟩
    | succ b ih =>
      intro hb hno
      by_cases e : a = b + 1
      · subst e; exact ⟨rfl, rfl⟩
      · have hx : q[b]? = some q[b] := List.getElem?_eq_getElem (by omega)
        have h1 := did_quiet (step b _ hx) (hno b _ (by omega) (by omega) hx)
        have h2 := ih (by omega) (by omega) (fun p x h1 h2 h3 => hno p x h1 (by omega) h3)
        exact ⟨h1.1.trans h2.1, h1.2.trans h2.2⟩
  have grows : ∀ (a b : Nat), a ≤ b → b ≤ q.length → (∀ (p : Nat) x, a ≤ p → p < b → q[p]? = some x → allocK x.2.k = true ∨ quietK x.2.k = true) → ∀ c r, look (st a).H c = some r → look (st b).H c = some r := by
    intro a b hab
    induction b with
    | zero => intro _ _ c r h; have : a = 0 := by omega
              subst this; exact h
    | succ b ih =>
      intro hb hno c r h
      by_cases e : a = b + 1
      · subst e; exact h
      · have hx : q[b]? = some q[b] := List.getElem?_eq_getElem (by omega)
        exact (did_fresh hΦ (step b _ hx) (fresh b (by omega))).2 (hno b _ (by omega) (by omega) hx) c r (ih (by omega) (by omega) (fun p x h1 h2 h3 => hno p x h1 (by omega) h3) c r h)
  have nconst : ∀ p, p ≤ q.length → (st p).n = s.n := by
    intro p
    induction p with
    | zero => intro _; rw [h0]
    | succ p ih =>
      intro hp
      have hx : q[p]? = some q[p] := List.getElem?_eq_getElem (by omega)
      rw [(did_env (step p _ hx)).2, ih (by omega)]
  refine wp_region_any hmix ?_
  have main : ∀ (fuel : Nat) (S : Array Bool) (p0 : Nat) (L : Loc) (a : Act) (w : World), S.size = ops.size → Closed ops S → ops.size ≤ cnt S + fuel →
      InvD P G B q st vals s L0 w0 S p0 L a w → wpAny P .any ops (Post P G B Q L0 s.H w0) fuel S a w := by
    -- all is done
    have full : ∀ (S : Array Bool) (p0 : Nat) (L : Loc) (a : Act) (w : World), (∀ i, i < ops.size → S.getD i false = true) → InvD P G B q st vals s L0 w0 S p0 L a w → Post P G B Q L0 s.H w0 .normal a w := by
      intro S p0 L a w hS inv
      have hxi : ∀ (p : Nat) x, q[p]? = some x → S.getD x.1 false = true := fun p x hx => hS _ (by have := (List.getElem?_eq_some_iff.1 (hmem p x hx)).1; omega)
      have hf := flat p0 q.length inv.le (Nat.le_refl _) (fun p x h1 h2 h3 => by
        cases hk : quietK x.2.k with
        | true => rfl
        | false => have := (inv.done p x h3 hk).1 (hxi p x h3); omega)
      refine ⟨s2, L, hq, ⟨?_, ?_, inv.base, ?_, inv.defers, fun k u hl => ?_⟩, ?_, inv.μ⟩
      · rw [← hlast, hf.1]; exact inv.heap
      · rw [← hlast, hf.2]; exact inv.nx
      · rw [← hlast, nconst _ (Nat.le_refl _)]; exact inv.size
      · rw [← hlast] at hl
        rcases look_trace h0 hall q.length (by simp) k u hl with ⟨j, m, hj, hmj, hdst, rfl⟩ | ⟨hno, hs⟩
        · have hx : q[j]? = some q[j] := List.getElem?_eq_getElem hj
          have e : m = q[j].2 := by rw [hms j _ hx] at hmj; injection hmj with hmj; exact hmj.symm
          subst e
          exact inv.vals j _ hx (hxi j _ hx) k hdst
        · refine inv.old k u (fun p x hx _ => hno p x.2 ?_ (hms p x hx)) hs
          exact (List.getElem?_eq_some_iff.1 hx).1
      · rw [← hlast, hf.1]; exact inv.ext
    intro fuel
    induction fuel with
    | zero =>
      intro S p0 L a w hs hS hc inv
      have hall' := cnt_full (S := S) (by omega)
      refine ⟨?_, full S p0 L a w (fun i hi => hall' i (by omega)) inv⟩
      rw [List.eq_nil_iff_forall_not_mem]
      intro i hi
      obtain ⟨h1, h2, _⟩ := ready_spec hi
      rw [getD_both (by omega), hall' i (by omega)] at h2
      cases h2
    | succ fuel ih =>
      intro S p0 L a w hs hS hc inv
      refine ⟨fun hr => ?_, fun i hi => ?_⟩
      · refine full S p0 L a w (fun i => ?_) inv
        induction i using Nat.strongRecOn with
        | _ i ihi =>
          intro hi
          cases hS' : S.getD i false with
          | true => rfl
          | false =>
            exfalso
            have : i ∈ Region.ready .any ops S := ready_mk (o := ops[i]) (Array.getElem?_eq_getElem hi) (by rw [getD_both (by omega)]; exact hS')
              (fun e he hb => by
                have := hd.back i _ (Array.getElem?_eq_getElem hi) e he hb
                exact ihi _ this (by omega))
            rw [hr] at this
            cases this
      · obtain ⟨hi1, hun, o, ho, hp⟩ := ready_spec hi
        rw [getD_both (by omega)] at hun
        obtain ⟨p, mi, hx⟩ := hd.all i hi1
        have hpl : p < q.length := (List.getElem?_eq_some_iff.1 hx).1
        obtain ⟨mi', hmi', hcomp⟩ := (ha.at_ i).1 o (by simpa using ho)
        have emi : mi' = mi := by have := hmem p _ hx; simp only at this; rw [this] at hmi'; injection hmi' with h; exact h.symm
        subst emi
        obtain ⟨hcop, hdst, hdlt, hwants⟩ := compMini_spec hcomp
        -- what came before is done; what waits for this one is not
        have bef : ∀ j, ((ancs ops.toList []).getD i 0).testBit j = true → S.getD j false = true := fun j hb => before_listed hS ho hb hp
        have aft : ∀ j, j < ops.size → ((ancs ops.toList []).getD j 0).testBit i = true → S.getD j false = false := by
          intro j hj hb
          cases hSj : S.getD j false with
          | false => rfl
          | true =>
            have hjo : ops[j]? = some ops[j] := Array.getElem?_eq_getElem hj
            have := before_listed hS hjo hb (hS j _ hjo hSj)
            rw [this] at hun; cases hun
        have idx : ∀ (p' : Nat) y, q[p']? = some y → y.1 < ops.size := fun p' y hy => by have := (List.getElem?_eq_some_iff.1 (hmem p' y hy)).1; omega
        -- the slots that it looks at
        have eye : ∀ k u, k ∈ mi'.eyes → look (st p).env k = some u → RepV P L w u (a.tmps.getD k undef) := by
          intro k u hke hl
          rcases look_trace h0 hall p (by simp; omega) k u hl with ⟨j, m, hj, hmj, hdj, rfl⟩ | ⟨hno, hs'⟩
          · have hy : q[j]? = some q[j] := List.getElem?_eq_getElem (by omega)
            have e : m = q[j].2 := by rw [hms j _ hy] at hmj; injection hmj with hmj; exact hmj.symm
            subst e
            have hok := hd.pair j p _ _ hj hy hx
            unfold okPair at hok
            simp only [Bool.and_eq_true] at hok
            have h2 := hok.1.1.2
            rw [hdj] at h2
            simp only [Bool.or_eq_true, Bool.not_eq_true'] at h2
            rcases h2 with h2 | h2
            · exact absurd hke (by simpa using h2)
            · exact inv.vals j _ hy (bef _ h2) k hdj
          · refine inv.old k u (fun p' y hy hSy hdy => ?_) hs'
            rcases Nat.lt_trichotomy p' p with hlt | heq | hgt
            · exact hno p' y.2 hlt (hms p' y hy) hdy
            · subst heq
              rw [hx] at hy; injection hy with hy; subst hy
              simp only at hSy
              rw [hSy] at hun; cases hun
            · have hok := hd.pair p p' _ _ hgt hx hy
              unfold okPair at hok
              simp only [Bool.and_eq_true] at hok
              have h3 := hok.1.2
              rw [hdy] at h3
              simp only [Bool.or_eq_true, Bool.not_eq_true'] at h3
              rcases h3 with h3 | h3
              · exact absurd hke (by simpa using h3)
              · have := aft y.1 (idx p' y hy) h3
                rw [this] at hSy; cases hSy
        have hS' : Closed ops (S.setIfInBounds i true) := by
          intro j oj hoj hj e he hb
          rw [getD_set S i _ (by omega)] at hj ⊢
          split
          · rfl
          · split at hj
            · rename_i e1
              subst e1
              rw [ho] at hoj
              injection hoj with hoj
              subst hoj
              exact hp e he hb
            · exact hS j oj hoj hj e he hb
        have hc' : ops.size ≤ cnt (S.setIfInBounds i true) + fuel := by rw [cnt_set (by omega) hun]; omega
        -- the moment behind the operation
        have next : ∀ (p1 : Nat) (L' : Loc) (w' : World) (u : Value), p1 ≤ q.length → (∀ (p' : Nat) y, q[p']? = some y → quietK y.2.k = false → ((S.setIfInBounds i true).getD y.1 false = true ↔ p' < p1)) →
            RepV P L' w' (vals p) u → HeapOK P G L' (st p1).H w' → L'.nx = (st p1).nx → Mono L w L' w' → Ext L (st p0).H w L' (st p1).H w' →
            wpAny P .any ops (Post P G B Q L0 s.H w0) fuel (S.setIfInBounds i true) (a.put o.dst u) w' := by
          intro p1 L' w' u hp1 hdone hru hok' hnx' hm' hx'
          refine ih _ p1 L' _ w' (by simpa using hs) hS' hc' ⟨hp1, hdone, hok', hnx', Nat.le_trans inv.base hm'.nx, ?_, ?_, ?_, ?_, inv.ext.trans hx', fun b hb => (hm'.μ b (Nat.lt_of_lt_of_le hb inv.base)).trans (inv.μ b hb)⟩
          · rw [← inv.size]; cases o.dst <;> simp [Act.put]
          · cases o.dst <;> simp [Act.put, inv.defers]
          · intro p' y hy hSy k hk
            rw [tmps_put]
            by_cases e : i = y.1
            · have ep := uniq p p' _ _ hx hy e
              subst ep
              rw [hx] at hy; injection hy with hy; subst hy
              rw [if_pos ⟨by rw [← hdst]; exact hk, by rw [inv.size, hn]; exact hdlt k (by rw [← hdst]; exact hk)⟩]
              exact hru
            · rw [getD_set S i _ (by omega), if_neg e] at hSy
              have hne : o.dst ≠ some k := by
                rw [← hdst]
                intro hcon
                have epn : p ≠ p' := fun ep => by subst ep; rw [hx] at hy; injection hy with hy; subst hy; exact e rfl
                rcases Nat.lt_or_gt_of_ne epn with hlt | hgt
                · have hok := hd.pair p p' _ _ hlt hx hy
                  unfold okPair at hok
                  simp only [Bool.and_eq_true] at hok
                  have h4 := hok.2
                  rw [hcon] at h4
                  simp only [bne_iff_ne] at h4
                  exact h4 hk
                · have hok := hd.pair p' p _ _ hgt hy hx
                  unfold okPair at hok
                  simp only [Bool.and_eq_true] at hok
                  have h4 := hok.2
                  rw [hk] at h4
                  simp only [bne_iff_ne] at h4
                  exact h4 hcon
              rw [if_neg (fun h => hne h.1)]
              exact RepV.keep hm' _ (inv.vals p' y hy hSy k hk)
          · intro k u' hno h0'
            rw [tmps_put]
            have hk := hno p _ hx (by rw [getD_set S i _ (by omega), if_pos rfl])
            rw [if_neg (fun h => hk (by rw [hdst]; exact h.1))]
            refine RepV.keep hm' u' (inv.old k u' (fun p' y hy hSy => hno p' y hy ?_) h0')
            rw [getD_set S i _ (by omega)]
            split
            · rfl
            · exact hSy
        have keepdone : quietK mi'.k = true → ∀ (p' : Nat) y, q[p']? = some y → quietK y.2.k = false → ((S.setIfInBounds i true).getD y.1 false = true ↔ p' < p0) := by
          intro hquiet p' y hy hyk
          rw [getD_set S i _ (by omega)]
          by_cases e : i = y.1
          · have ep := uniq p p' _ _ hx hy e
            subst ep
            rw [hx] at hy; injection hy with hy; subst hy
            rw [hquiet] at hyk; cases hyk
          · rw [if_neg e]; exact inv.done p' y hy hyk
        -- its value at the rows as they stand
        have hi' : Interp P G B L ({ ((st p).only mi'.eyes) with H := (st p0).H, nx := (st p0).nx } : AState) a w := by
          refine ⟨inv.heap, inv.nx, inv.base, by show a.tmps.size = (st p).n; rw [nconst p (by omega)]; exact inv.size, inv.defers, fun k u hl => ?_⟩
          have hl' : look ((st p).only mi'.eyes).env k = some u := hl
          rw [look_only] at hl'
          split at hl'
          · rename_i hke; exact eye k u hke hl'
          · cases hl'
        have hww : ({ ((st p).only mi'.eyes) with H := (st p0).H, nx := (st p0).nx } : AState).wants ops o = mi'.wants (st p).env := by
          rw [hwants]; exact eyes_wants (st p) mi' mi'.eyes (fun _ h => h)
        have hev : mi'.xs.map (·.ev ({ ((st p).only mi'.eyes) with H := (st p0).H, nx := (st p0).nx } : AState).env) = mi'.xs.map (·.ev (st p).env) := eyes_ev (st p) mi' mi'.eyes (fun _ h => h)
        have hbefore : ∀ (p' : Nat) y, p' < p → q[p']? = some y → quietK y.2.k = false → p' < p0 := by
          intro p' y hlt hy hyk
          refine (inv.done p' y hy hyk).1 (bef _ ?_)
          have hok := hd.pair p' p _ _ hlt hy hx
          unfold okPair at hok
          simp only [Bool.and_eq_true] at hok
          have h1 := hok.1.1.1
          rw [hyk] at h1
          simpa using h1
        unfold wpOp
        rw [ho]
        simp only
        have hdid := step p _ hx
        simp only at hdid
        rcases hdid with ⟨hquiet, hval, hst⟩ | ⟨hheavy, hwf, hv, hst⟩ | ⟨hheavy, hwt, H', nx', hek, hst⟩
        · unfold valQ at hval
          split at hval
          · rename_i hwt
            rw [if_pos (hi'.wants (hww.trans hwt))]
            have hval' : evalQ Φ (st p0).H (st p0).nx mi'.k (mi'.xs.map (·.ev (st p).env)) = some (vals p) := by
              by_cases hpp : p0 ≤ p
              · have hf := flat p0 p hpp (by omega) (fun p' y h1 h2 h3 => by
                  cases hyk : quietK y.2.k with
                  | true => rfl
                  | false => have := hbefore p' y h2 h3 hyk; omega)
                rw [← hf.1, ← hf.2]; exact hval
              · by_cases hind : indepK mi'.k = true
                · exact evalQ_indep hind hval
                · refine evalQ_mono (grows p p0 (by omega) inv.le (fun p' y h1 h2 h3 => ?_)) hval
                  cases hyk : quietK y.2.k with
                  | true => exact .inr rfl
                  | false =>
                    left
                    have hSy := (inv.done p' y h3 hyk).2 h2
                    have hlt : p < p' := by
                      rcases Nat.lt_or_ge p p' with h | h
                      · exact h
                      · have : p' = p := by omega
                        subst this
                        rw [hx] at h3; injection h3 with h3; subst h3
                        simp only at hyk
                        rw [hquiet] at hyk; cases hyk
                    have hok := hd.pair p p' _ _ hlt hx h3
                    unfold okPair at hok
                    simp only [Bool.and_eq_true] at hok
                    have h1' := hok.1.1.1
                    simp only [hquiet, hyk, Bool.true_and, Bool.false_or, Bool.or_eq_true] at h1'
                    rcases h1' with (h | h) | h
                    · exact absurd h hind
                    · exact h
                    · have := aft y.1 (idx p' y h3) h
                      rw [this] at hSy; cases hSy
            have hek' : evalK Φ ({ ((st p).only mi'.eyes) with H := (st p0).H, nx := (st p0).nx } : AState).H ({ ((st p).only mi'.eyes) with H := (st p0).H, nx := (st p0).nx } : AState).nx mi'.k (mi'.xs.map (·.ev ({ ((st p).only mi'.eyes) with H := (st p0).H, nx := (st p0).nx } : AState).env)) = some (vals p, (st p0).H, (st p0).nx) := by
              rw [hev]; exact evalQ_evalK hval'
            have haop := opK_aop (B := B) hΦ hcop hek' L a w hi'
            refine .inl (oper_wp_mono ?_ (fun _ _ _ h => h.elim) haop)
            rintro a' w' ⟨u, L', rfl, hru, hok', hnx', hm', hx'⟩
            exact next p0 L' w' u inv.le (keepdone hquiet) hru hok' hnx' hm' hx'
          · rename_i hwf
            rw [if_neg (by rw [hi'.wants (hww.trans hwf)]; simp)]
            injection hval with hval
            exact next p0 L w undef inv.le (keepdone hquiet) (by rw [← hval]; simp only [RepV, RepT]) inv.heap inv.nx (Mono.refl _ _) (Ext.refl _ _ _)
          · cases hval
        all_goals
          have hp0p : p0 ≤ p := by
            rcases Nat.lt_or_ge p p0 with h | h
            · have := (inv.done p _ hx hheavy).2 h
              simp only at this
              rw [this] at hun; cases hun
            · exact h
          have hf := flat p0 p hp0p (by omega) (fun p' y h1 h2 h3 => by
            cases hyk : quietK y.2.k with
            | true => rfl
            | false => have := hbefore p' y h2 h3 hyk; omega)
          have hdone' : ∀ (p' : Nat) y, q[p']? = some y → quietK y.2.k = false → ((S.setIfInBounds i true).getD y.1 false = true ↔ p' < p + 1) := by
            intro p' y hy hyk
            rw [getD_set S i _ (by omega)]
            by_cases e : i = y.1
            · have ep := uniq p p' _ _ hx hy e
              subst ep
              simp [e]
            · rw [if_neg e, inv.done p' y hy hyk]
              constructor
              · intro h; omega
              · intro h
                have : p' ≠ p := fun ep => by subst ep; rw [hx] at hy; injection hy with hy; subst hy; exact e rfl
                exact hbefore p' y (by omega) hy hyk
        · rw [if_neg (by rw [hi'.wants (hww.trans hwf)]; simp)]
          have e1 : (st (p + 1)).H = (st p0).H := by rw [hst, put_H, hf.1]
          have e2 : (st (p + 1)).nx = (st p0).nx := by rw [hst, put_nx, hf.2]
          refine next (p + 1) L w undef (by omega) hdone' (by rw [hv]; simp only [RepV, RepT]) (by rw [e1]; exact inv.heap) (by rw [e2]; exact inv.nx) (Mono.refl _ _) (by rw [e1]; exact Ext.refl _ _ _)
        · rw [if_pos (hi'.wants (hww.trans hwt))]
          have hek' : evalK Φ ({ ((st p).only mi'.eyes) with H := (st p0).H, nx := (st p0).nx } : AState).H ({ ((st p).only mi'.eyes) with H := (st p0).H, nx := (st p0).nx } : AState).nx mi'.k (mi'.xs.map (·.ev ({ ((st p).only mi'.eyes) with H := (st p0).H, nx := (st p0).nx } : AState).env)) = some (vals p, H', nx') := by
            rw [hev]
            show evalK Φ (st p0).H (st p0).nx mi'.k _ = _
            rw [← hf.1, ← hf.2]; exact hek
          have haop := opK_aop (B := B) hΦ hcop hek' L a w hi'
          refine .inl (oper_wp_mono ?_ (fun _ _ _ h => h.elim) haop)
          rintro a' w' ⟨u, L', rfl, hru, hok', hnx', hm', hx'⟩
          have e1 : (st (p + 1)).H = H' := by rw [hst, put_H]
          have e2 : (st (p + 1)).nx = nx' := by rw [hst, put_nx]
          exact next (p + 1) L' w' u (by omega) hdone' hru (by rw [e1]; exact hok') (by rw [e2]; exact hnx') hm' (by rw [e1]; exact hx')
  obtain ⟨hok, hm, hx⟩ := hi0.heap.of_heap (w' := { w0 with drawn := w0.drawn + 1 }) ⟨rfl, rfl, rfl⟩ rfl
  have hfalse : ∀ i, (Array.replicate ops.size false).getD i false = false := by
    intro i
    simp only [Array.getD_eq_getD_getElem?, Array.getElem?_replicate]
    split <;> rfl
  refine main ops.size _ 0 L0 a0 _ (by simp) ?_ (by omega) ⟨Nat.zero_le _, ?_, by rw [h0]; exact hok, by rw [h0]; exact hi0.nx, hi0.base, hi0.size, hi0.defers, ?_, ?_, by rw [h0]; exact hx, fun _ _ => rfl⟩
  · intro i o _ h; rw [hfalse] at h; cases h
  · intro p x _ _; rw [hfalse]; simp
  · intro p x _ h; rw [hfalse] at h; cases h
  · intro k u _ hu
    exact RepV.keep hm u (hi0.env k u hu)
end
end Go.Abs
