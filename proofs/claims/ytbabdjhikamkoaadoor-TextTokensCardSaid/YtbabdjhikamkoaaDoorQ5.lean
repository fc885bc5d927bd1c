/-
  Code in compact form ('MCode'), compiled from the program's own; rules for it; contracts proved from it. No statement of the program stands here.
  A function's compact code in one word ('FnOK'), and its contract from it. No statement of the program stands here.
  Running compact code towards an end ('runsM'): the same as 'runM', in a form that a simplifier walks. No statement of the program stands here.
  What each kind of operation gives, as equations. No statement of the program stands here.
  Tables of what functions return; loops that go n rounds; sums that do not wrap. No statement of the program stands here.
-/
import Derived.Test.YtbabdjhikamkoaaDoorQ4
import Derived.KernelRfl
import Derived.IntWalk
namespace Go.Abs
set_option linter.unusedSimpArgs false
set_option linter.unusedVariables false
open Go

inductive MCode where
  | skip
  | ops (l : List Mini)
  | draw (l : List Mini)
  | drawG (k : Nat) (l : List GI)
  | seq (a b : MCode)
  | cond (c : Opd) (a b : MCode)
  | block (id : Nat) (b : MCode)
  | loop (b : MCode)
  | exit (id : Nat)
  | ret
  | scope (b : MCode)

/-- An order in which a region that draws its order is run: those that change rows stay in the text's order; the others go as early as they may. -/
def sched (A : List Nat) (l : List Mini) : List Nat :=
  let idx := List.range l.length
  let hs := idx.filter fun i => !((l[i]?).map fun m => quietK m.k).getD true
  let qs := idx.filter fun i => ((l[i]?).map fun m => quietK m.k).getD true
  (List.range (hs.length + 1)).flatMap fun g => (qs.filter fun i => (hs.filter fun h => (A.getD i 0).testBit h).length == g) ++ (hs[g]?).toList

/-- A region with a group, or with looks again. -/
def compG (ops : Array Oper) (l : List Mini) (π : List Nat) : Option MCode :=
  let q := ordered l π
  let pk := groupOf q
  let R := againOf (ancs ops.toList []) q
  let is := itemsOf pk.1 pk.2 R q
  if drawM ops l π pk.1 pk.2 R && shapeG pk.1 pk.2 R is then some (.drawG pk.2 is) else none

theorem items_mini (pa k : Nat) (R : List (Nat × Nat)) (q : List (Nat × Mini)) : (itemsOf pa k R q).map GI.mini = q.map Prod.snd := by
  unfold itemsOf
  rw [List.map_map]
  have : ∀ (q : List (Nat × Mini)) (n : Nat), (q.zipIdx n).map (GI.mini ∘ fun x => if pa ≤ x.2 ∧ x.2 < pa + k then .g (x.2 - pa) x.1.2 else .o x.1.2 (R.any fun r => r.1 == x.2) ((R.filter fun r => r.2 == x.2).map Prod.fst)) = q.map Prod.snd := by
    intro q
    induction q with
    | nil => intro n; rfl
    | cons a q ih =>
      intro n
      simp only [List.zipIdx_cons, List.map_cons, ih]
      congr 1
      simp only [Function.comp]
      split <;> rfl
  exact this q 0

theorem compG_spec {ops : Array Oper} {l : List Mini} {π : List Nat} {M : MCode} (h : compG ops l π = some M) :
    ∃ pa k R is, M = .drawG k is ∧ drawM ops l π pa k R = true ∧ shapeG pa k R is = true ∧ is.map GI.mini = (ordered l π).map Prod.snd := by
  unfold compG at h
  simp only at h
  split at h
  · rename_i hc
    rw [Bool.and_eq_true] at hc
    injection h with h
    exact ⟨_, _, _, _, h.symm, hc.1, hc.2, items_mini _ _ _ _⟩
  · cases h

def comp (P : Program) (G : Globs) (N : Nat) : Code → Option MCode
  | .skip => some .skip
  | .label _ => some .skip
  | .region _ ops draw => match ops.toList.mapM (compMini P G N draw ops) with
    | some l => if draw then
        (if drawM ops l (sched (ancs ops.toList []) l) 0 0 [] then some (.draw ((ordered l (sched (ancs ops.toList []) l)).map Prod.snd))
        else compG ops l (sched (ancs ops.toList []) l))
      else some (.ops l)
    | none => none
  | .seq a b => match comp P G N a, comp P G N b with
    | some x, some y => some (.seq x y)
    | _, _ => none
  | .cond c a b => match comp P G N a, comp P G N b with
    | some x, some y => some (.cond (compOpd G c) x y)
    | _, _ => none
  | .block id b => match comp P G N b with
    | some x => some (.block id x)
    | none => none
  | .loop b => match comp P G N b with
    | some x => some (.loop x)
    | none => none
  | .exit id => some (.exit id)
  | .ret => some .ret
  | .scope b => match comp P G N b with
    | some x => some (.scope x)
    | none => none
  | _ => none

def MC (P : Program) (G : Globs) (B N : Nat) (M : MCode) (Q : Exit → AState → Prop) (s : AState) : Prop :=
  ∀ c, comp P G N c = some M → s.n = N → ACode P G B c Q s

structure Ctx (P : Program) (G : Globs) (Φ : Oracle) : Prop where
  mix : P.follows .mixedOrders = true
  sound : Φ.Sound P G

section
variable {P : Program} {G : Globs} {B N : Nat} {Φ : Oracle} {Q Q' : Exit → AState → Prop} {s s' : AState}

theorem comp_cases {c : Code} {M : MCode} (h : comp P G N c = some M) :
    match M with
    | .skip => c = .skip ∨ ∃ l, c = .label l
    | .ops l => ∃ id ops, c = .region id ops false ∧ ops.toList.mapM (compMini P G N false ops) = some l
    | .draw l => ∃ id ops lt π, c = .region id ops true ∧ ops.toList.mapM (compMini P G N true ops) = some lt ∧ drawM ops lt π 0 0 [] = true ∧ l = (ordered lt π).map Prod.snd
    | .drawG k is => ∃ id ops lt π pa R, c = .region id ops true ∧ ops.toList.mapM (compMini P G N true ops) = some lt ∧ drawM ops lt π pa k R = true ∧ shapeG pa k R is = true ∧ is.map GI.mini = (ordered lt π).map Prod.snd
    | .seq x y => ∃ a b, c = .seq a b ∧ comp P G N a = some x ∧ comp P G N b = some y
    | .cond k x y => ∃ k0 a b, c = .cond k0 a b ∧ k = compOpd G k0 ∧ comp P G N a = some x ∧ comp P G N b = some y
    | .block id x => ∃ b, c = .block id b ∧ comp P G N b = some x
    | .loop x => ∃ b, c = .loop b ∧ comp P G N b = some x
    | .exit id => c = .exit id
    | .ret => c = .ret
    | .scope x => ∃ b, c = .scope b ∧ comp P G N b = some x := by
  cases c <;> simp only [comp] at h
  case skip => injection h with h; subst h; exact .inl rfl
  case label l => injection h with h; subst h; exact .inr ⟨l, rfl⟩
  case region id ops draw =>
    split at h
    · rename_i l hl
      cases draw with
      | false => simp only [Bool.false_eq_true, if_false] at h; injection h with h; subst h; exact ⟨id, ops, rfl, hl⟩
      | true =>
        simp only [if_true] at h
        split at h
        · rename_i hd
          injection h with h; subst h
          exact ⟨id, ops, l, _, rfl, hl, hd, rfl⟩
        · obtain ⟨pa, k, R, is, rfl, h1, h2, h3⟩ := compG_spec h
          exact ⟨id, ops, l, _, pa, R, rfl, hl, h1, h2, h3⟩
    · cases h
  case seq a b =>
    split at h
    · rename_i x y hx hy; injection h with h; subst h; exact ⟨a, b, rfl, hx, hy⟩
    · cases h
  case cond k a b =>
    split at h
    · rename_i x y hx hy; injection h with h; subst h; exact ⟨k, a, b, rfl, rfl, hx, hy⟩
    · cases h
  case block id b =>
    split at h
    · rename_i x hx; injection h with h; subst h; exact ⟨b, rfl, hx⟩
    · cases h
  case loop b =>
    split at h
    · rename_i x hx; injection h with h; subst h; exact ⟨b, rfl, hx⟩
    · cases h
  case exit id => injection h with h; subst h; rfl
  case ret => injection h with h; subst h; rfl
  case scope b =>
    split at h
    · rename_i x hx; injection h with h; subst h; exact ⟨b, rfl, hx⟩
    · cases h
  all_goals cases h

theorem Sub.n_eq (h : Sub P G B s s') : True := trivial

theorem MC.sub {M : MCode} (hs : Sub P G B s s') (hn : s'.n = s.n) (h : MC P G B N M Q s') : MC P G B N M Q s :=
  fun c hc hN => (h c hc (hn.trans hN)).sub hs

theorem MC.mono {M : MCode} (h : MC P G B N M Q s) (hq : ∀ e s1, Q e s1 → Q' e s1) : MC P G B N M Q' s := fun c hc hN => (h c hc hN).mono hq

/-- Behind x goes y; the number of slots stays. -/
def ThenM (P : Program) (G : Globs) (B N : Nat) (y : MCode) (Q : Exit → AState → Prop) : Exit → AState → Prop
  | .normal, s => s.n = N ∧ MC P G B N y Q s
  | e, s => Q e s

theorem mc_seq {x y : MCode} (h : MC P G B N x (ThenM P G B N y Q) s) : MC P G B N (.seq x y) Q s := by
  intro c hc hn
  obtain ⟨a, b, rfl, ha, hb⟩ := comp_cases hc
  refine acode_seq ((h a ha hn).mono fun e s1 q => ?_)
  cases e <;> first | exact q.2 b hb q.1 | exact q

theorem mc_cond {k : Opd} {x y : MCode} {t : Bool} (hk : k.ev s.env = .t (.v (.bool t))) (h : MC P G B N (if t then x else y) Q s) : MC P G B N (.cond k x y) Q s := by
  intro c hc hn
  obtain ⟨k0, a, b, rfl, rfl, ha, hb⟩ := comp_cases hc
  rw [compOpd_ev] at hk
  refine acode_cond hk ?_
  cases t
  · exact h b hb hn
  · exact h a ha hn

theorem mc_block {id : Nat} {x : MCode} (h : MC P G B N x (InBlock id Q) s) : MC P G B N (.block id x) Q s := by
  intro c hc hn
  obtain ⟨b, rfl, hb⟩ := comp_cases hc
  exact acode_block (h b hb hn)

/-- No jump leaves. -/
def NoGoto (Q : Exit → AState → Prop) : Exit → AState → Prop
  | .goto _, _ => False
  | e, s => Q e s

theorem mc_scope {x : MCode} (h : MC P G B N x (NoGoto Q) s) : MC P G B N (.scope x) Q s := by
  intro c hc hn
  obtain ⟨b, rfl, hb⟩ := comp_cases hc
  intro L a w hi
  refine wp_scope_straight (wp_mono (h b hb hn L a w hi) ?_)
  rintro e a' w' ⟨s1, L1, q, rest⟩
  cases e with
  | goto l => exact q.elim
  | normal => exact ⟨s1, L1, q, rest⟩
  | exit i => exact ⟨s1, L1, q, rest⟩
  | ret => exact ⟨s1, L1, q, rest⟩
  | panic ch => exact ⟨s1, L1, q, rest⟩
  | outgrown => exact ⟨s1, L1, q, rest⟩

theorem mc_loop {x : MCode} (Inv : Nat → AState → Prop) (n : Nat) (h0 : Inv n s) (hN : ∀ n s, Inv n s → s.n = N) (round : ∀ n s, Inv n s → MC P G B N x (Round P G B Inv n Q) s) : MC P G B N (.loop x) Q s := by
  intro c hc _
  obtain ⟨b, rfl, hb⟩ := comp_cases hc
  exact acode_loop Inv n h0 fun n s hi => round n s hi b hb (hN n s hi)

/-- Running code without loops. -/
noncomputable def runM (Φ : Oracle) : MCode → AState → Option (Exit × AState)
  | .skip, s => some (.normal, s)
  | .ops l, s => match runL Φ l s with
    | some s1 => some (.normal, s1)
    | none => none
  | .draw l, s => match runD Φ l s with
    | some s1 => some (.normal, s1)
    | none => none
  | .drawG k l, s => match runG Φ k 0 0 [] l s with
    | some s1 => some (.normal, s1)
    | none => none
  | .seq a b, s => match runM Φ a s with
    | some (.normal, s1) => runM Φ b s1
    | r => r
  | .cond c a b, s => match c.ev s.env with
    | .t (.v (.bool t)) => bif t then runM Φ a s else runM Φ b s
    | _ => none
  | .block id b, s => match runM Φ b s with
    | some (.exit i, s1) => if i = id then some (.normal, s1) else some (.exit i, s1)
    | r => r
  | .loop _, _ => none
  | .exit id, s => some (.exit id, s)
  | .ret, s => some (.ret, s)
  | .scope b, s => match runM Φ b s with
    | some (.goto _, _) => none
    | r => r

theorem stepM_n {m : Mini} (h : stepM Φ s m = some s') : s'.n = s.n := by
  unfold stepM at h
  split at h
  · split at h
    · injection h with h; subst h; rw [put_n]
    · cases h
  · injection h with h; subst h; rw [put_n]
  · cases h

theorem runL_n : ∀ {l : List Mini} {s s' : AState}, runL Φ l s = some s' → s'.n = s.n
  | [], s, s', h => by simp only [runL, Option.some.injEq] at h; rw [h]
  | m :: l, s, s', h => by
    simp only [runL] at h
    split at h
    · rename_i s1 h1; rw [runL_n h, stepM_n h1]
    · cases h

theorem runD_n : ∀ {l : List Mini} {s s' : AState}, runD Φ l s = some s' → s'.n = s.n
  | [], s, s', h => by simp only [runD, Option.some.injEq] at h; rw [h]
  | m :: l, s, s', h => by
    simp only [runD] at h
    split at h
    · rename_i s1 h1
      rw [runD_n h]
      obtain ⟨v, hv⟩ := stepD_did h1
      exact (did_env hv).2
    · cases h

theorem runG_n {k : Nat} : ∀ (l : List GI) {n b : Nat} {pd : Pend} {s s' : AState}, runG Φ k n b pd l s = some s' → s'.n = s.n
  | [], n, b, pd, s, s', h => by simp only [runG, Option.some.injEq] at h; rw [h]
  | .o m kp ag :: r, n, b, pd, s, s', h => by
    simp only [runG] at h
    split at h
    · split at h
      · rw [runG_n r h, put_n]
      · cases h
    · cases h
  | .g j m :: r, n, b, pd, s, s', h => by
    simp only [runG] at h
    split at h
    · rw [runG_n r h, put_n]
    · cases h

theorem runM_n : ∀ (M : MCode) {s : AState} {e : Exit} {s' : AState}, runM Φ M s = some (e, s') → s'.n = s.n
  | .skip, s, e, s', h => by simp only [runM, Option.some.injEq, Prod.mk.injEq] at h; rw [h.2]
  | .ops l, s, e, s', h => by
    simp only [runM] at h
    split at h
    · rename_i s1 h1; simp only [Option.some.injEq, Prod.mk.injEq] at h; rw [← h.2, runL_n h1]
    · cases h
  | .draw l, s, e, s', h => by
    simp only [runM] at h
    split at h
    · rename_i s1 h1; simp only [Option.some.injEq, Prod.mk.injEq] at h; rw [← h.2, runD_n h1]
    · cases h
  | .drawG k l, s, e, s', h => by
    simp only [runM] at h
    split at h
    · rename_i s1 h1; simp only [Option.some.injEq, Prod.mk.injEq] at h; rw [← h.2, runG_n l h1]
    · cases h
  | .seq a b, s, e, s', h => by
    simp only [runM] at h
    split at h
    · rename_i s1 h1; rw [runM_n b h, runM_n a h1]
    · exact runM_n a h
  | .cond c a b, s, e, s', h => by
    simp only [runM] at h
    split at h
    · rename_i t ht
      cases t
      · exact runM_n b h
      · exact runM_n a h
    · cases h
  | .block id b, s, e, s', h => by
    simp only [runM] at h
    split at h
    · rename_i i s1 h1
      split at h
      · simp only [Option.some.injEq, Prod.mk.injEq] at h; rw [← h.2, runM_n b h1]
      · simp only [Option.some.injEq, Prod.mk.injEq] at h; rw [← h.2, runM_n b h1]
    · exact runM_n b h
  | .loop _, s, e, s', h => by simp [runM] at h
  | .exit id, s, e, s', h => by simp only [runM, Option.some.injEq, Prod.mk.injEq] at h; rw [h.2]
  | .ret, s, e, s', h => by simp only [runM, Option.some.injEq, Prod.mk.injEq] at h; rw [h.2]
  | .scope b, s, e, s', h => by
    simp only [runM] at h
    split at h
    · cases h
    · exact runM_n b h

theorem mc_run (hΦ : Ctx P G Φ) : ∀ (M : MCode) {Q : Exit → AState → Prop} {s : AState} {e : Exit} {s' : AState}, runM Φ M s = some (e, s') → Q e s' → MC P G B N M Q s
  | .skip, Q, s, e, s', h, hq => by
    simp only [runM, Option.some.injEq, Prod.mk.injEq] at h
    obtain ⟨rfl, rfl⟩ := h
    intro c hc hn
    rcases comp_cases hc with rfl | ⟨l, rfl⟩
    · exact acode_skip hq
    · exact acode_label hq
  | .ops l, Q, s, e, s', h, hq => by
    simp only [runM] at h
    split at h
    · rename_i s1 h1
      simp only [Option.some.injEq, Prod.mk.injEq] at h
      obtain ⟨rfl, rfl⟩ := h
      intro c hc hn
      obtain ⟨id, ops, rfl, hl⟩ := comp_cases hc
      exact acode_region (runL_sound hΦ.sound _ (alike_of_mapM hl) hn h1 hq)
    · cases h
  | .draw l, Q, s, e, s', h, hq => by
    simp only [runM] at h
    split at h
    · rename_i s1 h1
      simp only [Option.some.injEq, Prod.mk.injEq] at h
      obtain ⟨rfl, rfl⟩ := h
      intro c hc hn
      obtain ⟨id, ops, lt, π, rfl, hl, hd, rfl⟩ := comp_cases hc
      obtain ⟨st, vals, ht⟩ := runD_trace' h1
      exact acode_draw hΦ.mix hΦ.sound hl hd hn ht hq
    · cases h
  | .drawG k l, Q, s, e, s', h, hq => by
    simp only [runM] at h
    split at h
    · rename_i s1 h1
      simp only [Option.some.injEq, Prod.mk.injEq] at h
      obtain ⟨rfl, rfl⟩ := h
      intro c hc hn
      obtain ⟨id, ops, lt, π, pa, R, rfl, hl, hd, hsh, he⟩ := comp_cases hc
      obtain ⟨st, vals, ht⟩ := runG_trace h1 hsh
      rw [he] at ht
      exact acode_draw hΦ.mix hΦ.sound hl hd hn ht hq
    · cases h
  | .seq a b, Q, s, e, s', h, hq => by
    intro c hc hn
    refine mc_seq ?_ c hc hn
    simp only [runM] at h
    split at h
    · rename_i s1 h1
      exact mc_run hΦ a h1 ⟨(runM_n a h1).trans hn, mc_run hΦ b h hq⟩
    · rename_i hne
      refine mc_run hΦ a h ?_
      cases e
      case normal => exact absurd h (hne s')
      all_goals exact hq
  | .cond k a b, Q, s, e, s', h, hq => by
    simp only [runM] at h
    split at h
    · rename_i t ht
      refine mc_cond ht ?_
      cases t
      · exact mc_run hΦ b h hq
      · exact mc_run hΦ a h hq
    · cases h
  | .block id b, Q, s, e, s', h, hq => by
    refine mc_block ?_
    simp only [runM] at h
    split at h
    · rename_i i s1 h1
      refine mc_run hΦ b h1 ?_
      simp only [InBlock]
      split at h
      · rename_i hid
        rw [if_pos hid]
        simp only [Option.some.injEq, Prod.mk.injEq] at h
        obtain ⟨rfl, rfl⟩ := h
        exact hq
      · rename_i hid
        rw [if_neg hid]
        simp only [Option.some.injEq, Prod.mk.injEq] at h
        obtain ⟨rfl, rfl⟩ := h
        exact hq
    · rename_i hne
      refine mc_run hΦ b h ?_
      cases e
      case exit i => exact absurd h (hne i s')
      all_goals exact hq
  | .loop _, Q, s, e, s', h, hq => by simp [runM] at h
  | .exit id, Q, s, e, s', h, hq => by
    simp only [runM, Option.some.injEq, Prod.mk.injEq] at h
    obtain ⟨rfl, rfl⟩ := h
    intro c hc hn
    have := comp_cases hc
    simp only at this
    subst this
    exact acode_exit hq
  | .ret, Q, s, e, s', h, hq => by
    simp only [runM, Option.some.injEq, Prod.mk.injEq] at h
    obtain ⟨rfl, rfl⟩ := h
    intro c hc hn
    have := comp_cases hc
    simp only at this
    subst this
    exact acode_ret hq
  | .scope b, Q, s, e, s', h, hq => by
    refine mc_scope ?_
    simp only [runM] at h
    split at h
    · cases h
    · rename_i hne
      refine mc_run hΦ b h ?_
      cases e
      case goto l => exact absurd h (hne l s')
      all_goals exact hq

/-! Forgetting and renumbering. -/

theorem mem_of_look {α : Type} : ∀ {l : List (Nat × α)} {k : Nat} {x : α}, look l k = some x → (k, x) ∈ l
  | [], k, x, h => by simp [look] at h
  | (j, y) :: l, k, x, h => by
    simp only [look] at h
    by_cases e : j = k
    · rw [if_pos e] at h; injection h with h; subst h; subst e; simp
    · rw [if_neg e] at h; exact List.mem_cons_of_mem _ (mem_of_look h)

/-- Slots and rows may be forgotten. -/
theorem sub_forget (hn : s'.n = s.n) (hx : s'.nx = s.nx) (he : ∀ q ∈ s'.env, look s.env q.1 = some q.2) (hH : ∀ q ∈ s'.H, look s.H q.1 = some q.2) : Sub P G B s s' := by
  intro L a w hi
  have back : ∀ b r, look s'.H b = some r → look s.H b = some r := fun b r h => hH _ (mem_of_look h)
  refine ⟨L, ⟨⟨hi.heap.lt, fun b r h => hi.heap.rep b r (back b r h), fun b r h => hi.heap.apart b r (back b r h), fun b b' r r' h h' => hi.heap.inj b b' r r' (back b r h) (back b' r' h'), fun b r h => hi.heap.nx b r (back b r h), hi.heap.glob⟩,
    by rw [hx]; exact hi.nx, hi.base, by rw [hn]; exact hi.size, hi.defers, fun k p h => hi.env k p (he _ (mem_of_look h))⟩, ?_, fun _ _ => rfl⟩
  exact ⟨Nat.le_refl _, fun _ _ _ => rfl, fun _ h => h, fun _ h => .inl h, fun g ⟨b, r, h, e⟩ => .inr ⟨b, r, back b r h, e⟩, Shapes.refl w, Outer.refl w⟩

mutual
/-- A value under other row numbers. -/
def ren (σ : Nat → Nat) : PV → PV
  | .t x => .t x
  | .row b o n z => .row (σ b) o n z
  | .ptr b o => .ptr (σ b) o
  | .ag cs => .ag (renL σ cs)
  | .tu cs => .tu (renL σ cs)
  | .fn f a c => .fn f (renL σ a) (renL σ c)
  | .ic t x => .ic t (ren σ x)
  | .mp b => .mp (σ b)
  | .dead => .dead
def renL (σ : Nat → Nat) : List PV → List PV
  | [] => []
  | p :: ps => ren σ p :: renL σ ps
end

mutual
/-- All row numbers are below n. -/
def under (n : Nat) : PV → Bool
  | .row b _ _ _ => decide (b < n)
  | .ptr b _ => decide (b < n)
  | .ag cs => underL n cs
  | .tu cs => underL n cs
  | .fn _ a c => underL n a && underL n c
  | .ic _ x => under n x
  | .mp b => decide (b < n)
  | _ => true
def underL (n : Nat) : List PV → Bool
  | [] => true
  | p :: ps => under n p && underL n ps
end

def renRow (σ : Nat → Nat) : Row → Row
  | .cells ty cs => .cells ty (renL σ cs)
  | .iter t pos => .iter t pos

def underRow (n : Nat) : Row → Bool
  | .cells _ cs => underL n cs
  | .iter _ _ => true

mutual
theorem ren_rep {L : Loc} {w : World} {σ : Nat → Nat} {nx : Nat} : ∀ (p : PV) {u : Value}, under nx p = true → RepV P L w (ren σ p) u → RepV P ⟨L.I, fun b => L.μ (σ b), nx⟩ w p u
  | .t x, u, _, h => by simpa only [ren, RepV] using h
  | .row b o n z, u, hu, h => by
    simp only [ren, RepV, under, decide_eq_true_eq] at h hu ⊢
    exact ⟨hu, h.2⟩
  | .ptr b o, u, hu, h => by
    simp only [ren, RepV, under, decide_eq_true_eq] at h hu ⊢
    exact ⟨hu, h.2⟩
  | .ag cs, u, hu, h => by
    simp only [ren, RepV, under] at h hu ⊢
    obtain ⟨us, e, h1, hl⟩ := h
    exact ⟨us, e, h1, renL_rep cs hu hl⟩
  | .tu cs, u, hu, h => by
    simp only [ren, RepV, under] at h hu ⊢
    obtain ⟨us, e, hl⟩ := h
    exact ⟨us, e, renL_rep cs hu hl⟩
  | .fn f a c, u, hu, h => by
    simp only [ren, RepV, under, Bool.and_eq_true] at h hu ⊢
    obtain ⟨us, vs, e, h1, h2⟩ := h
    exact ⟨us, vs, e, renL_rep a hu.1 h1, renL_rep c hu.2 h2⟩
  | .ic t x, u, hu, h => by
    simp only [ren, RepV, under] at h hu ⊢
    obtain ⟨y, e, hy⟩ := h
    exact ⟨y, e, ren_rep x hu hy⟩
  | .mp b, u, hu, h => by
    simp only [ren, RepV, under, decide_eq_true_eq] at h hu ⊢
    exact ⟨hu, h.2⟩
  | .dead, u, _, _ => by simp only [RepV]
theorem renL_rep {L : Loc} {w : World} {σ : Nat → Nat} {nx : Nat} : ∀ (ps : List PV) {us : List Value}, underL nx ps = true → RepVL P L w (renL σ ps) us → RepVL P ⟨L.I, fun b => L.μ (σ b), nx⟩ w ps us
  | [], us, _, h => by simpa only [renL, RepVL] using h
  | p :: ps, us, hu, h => by
    simp only [renL, RepVL, underL, Bool.and_eq_true] at h hu ⊢
    obtain ⟨x, xs, e, hx, hxs⟩ := h
    exact ⟨x, xs, e, ren_rep p hu.1 hx, renL_rep ps hu.2 hxs⟩
end

theorem renL_getElem (σ : Nat → Nat) : ∀ (ps : List PV) (j : Nat), (renL σ ps)[j]? = (ps[j]?).map (ren σ)
  | [], j => by simp [renL]
  | p :: ps, 0 => by simp [renL]
  | p :: ps, j + 1 => by simp [renL, renL_getElem σ ps j]

theorem underL_getElem {n : Nat} : ∀ {ps : List PV} {j : Nat} {p : PV}, underL n ps = true → ps[j]? = some p → under n p = true
  | [], j, p, _, h => by simp at h
  | q :: ps, 0, p, hu, h => by simp only [underL, Bool.and_eq_true] at hu; simp at h; subst h; exact hu.1
  | q :: ps, j + 1, p, hu, h => by simp only [underL, Bool.and_eq_true] at hu; exact underL_getElem hu.2 (by simpa using h)

theorem renL_length (σ : Nat → Nat) : ∀ (ps : List PV), (renL σ ps).length = ps.length
  | [] => rfl
  | p :: ps => by simp [renL, renL_length σ ps]

/-- Rows may be given other numbers (σ: the old number of each new one), slots and rows forgotten. -/
theorem sub_ren (σ : Nat → Nat) (hn : s'.n = s.n) (hB : B ≤ s'.nx) (hσ : ∀ b, b < B → σ b = b) (he : ∀ q ∈ s'.env, look s.env q.1 = some (ren σ q.2) ∧ under s'.nx q.2 = true)
    (hH : ∀ q ∈ s'.H, look s.H (σ q.1) = some (renRow σ q.2) ∧ q.1 < s'.nx ∧ underRow s'.nx q.2 = true) (hinj : ∀ q ∈ s'.H, ∀ q' ∈ s'.H, σ q.1 = σ q'.1 → q.1 = q'.1) : Sub P G B s s' := by
  intro L a w hi
  refine ⟨⟨L.I, fun b => L.μ (σ b), s'.nx⟩, ⟨⟨hi.heap.lt, fun b r h => ?_, fun b r h => ?_, fun b b' r r' h h' e => ?_, fun b r h => (hH _ (mem_of_look h)).2.1, hi.heap.glob⟩, rfl, hB, by rw [hn]; exact hi.size, hi.defers, fun k p h => ?_⟩, ?_, fun b hb => by show L.μ (σ b) = L.μ b; rw [hσ b hb]⟩
  · obtain ⟨h1, h2, h3⟩ := hH _ (mem_of_look h)
    have := hi.heap.rep _ _ h1
    cases r with
    | cells ty cs =>
      obtain ⟨arr, ha, hl, hc⟩ := this
      refine ⟨arr, ha, by rw [renL_length] at hl; exact hl, fun j c hj => ?_⟩
      obtain ⟨x, hx, h1x, hr⟩ := hc j (ren σ c) (by rw [renL_getElem, hj]; rfl)
      exact ⟨x, hx, h1x, ren_rep c (underL_getElem h3 hj) hr⟩
    | iter t pos => exact this
  · exact hi.heap.apart _ _ (hH _ (mem_of_look h)).1
  · exact hinj _ (mem_of_look h) _ (mem_of_look h') (hi.heap.inj _ _ _ _ (hH _ (mem_of_look h)).1 (hH _ (mem_of_look h')).1 e)
  · obtain ⟨h1, h2⟩ := he _ (mem_of_look h)
    exact ren_rep p h2 (hi.env k _ h1)
  · exact ⟨Nat.le_refl _, fun _ _ _ => rfl, fun _ h => h, fun _ h => .inl h, fun g ⟨b, r, h, e⟩ => .inr ⟨σ b, _, (hH _ (mem_of_look h)).1, e⟩, Shapes.refl w, Outer.refl w⟩

/-! Rows that are never written again become trees. -/

def frzP (H : Heap) (F : List Nat) (p : PV) : PV :=
  match toT H p with
  | some (x, F') => if F'.all (F.contains ·) then .t x else p
  | none => p

theorem frzP_rep {L : Loc} {H : Heap} {w : World} (hok : HeapOK P G L H w) (F : List Nat) {p : PV} {u : Value} (h : RepV P L w p u) : RepV P { L with I := fun g => L.I g ∨ Lent L H F g } w (frzP H F p) u := by
  have hm : Mono L w { L with I := fun g => L.I g ∨ Lent L H F g } w := ⟨fun g hg => ⟨.inl hg, rfl⟩, Nat.le_refl _, fun _ _ => rfl, Nat.le_refl _, Shapes.refl w⟩
  unfold frzP
  split
  · rename_i x F' hx
    split
    · rename_i hF
      simp only [RepV]
      exact toT_rep hok p hx h F (fun b hb => by simpa using List.all_eq_true.1 hF b hb)
    · exact RepV.keep hm p h
  · exact RepV.keep hm p h

def frzRow (H : Heap) (F : List Nat) : Row → Row
  | .cells ty cs => .cells ty (cs.map (frzP H F))
  | r => r

def AState.frz (s : AState) (F : List Nat) : AState :=
  { s with env := s.env.map (fun q => (q.1, frzP s.H F q.2)), H := (remAll s.H F).map (fun q => (q.1, frzRow s.H F q.2)) }

theorem look_map {α β : Type} (f : α → β) : ∀ (l : List (Nat × α)) (k : Nat), look (l.map fun q => (q.1, f q.2)) k = (look l k).map f
  | [], k => by simp [look]
  | (j, x) :: l, k => by
    simp only [List.map_cons, look, look_map f l k]
    split <;> rfl

theorem sub_frz (F : List Nat) : Sub P G B s (s.frz F) := by
  intro L a w hi
  have hm : Mono L w { L with I := fun g => L.I g ∨ Lent L s.H F g } w := ⟨fun g hg => ⟨.inl hg, rfl⟩, Nat.le_refl _, fun _ _ => rfl, Nat.le_refl _, Shapes.refl w⟩
  have back : ∀ b r, look (s.frz F).H b = some r → ∃ r0, look s.H b = some r0 ∧ b ∉ F ∧ r = frzRow s.H F r0 := by
    intro b r h
    simp only [AState.frz] at h
    rw [look_map] at h
    obtain ⟨r0, h0, rfl⟩ := map_opt h
    exact ⟨r0, (look_remAll F s.H b r0 h0).1, (look_remAll F s.H b r0 h0).2, rfl⟩
  refine ⟨{ L with I := fun g => L.I g ∨ Lent L s.H F g }, ⟨⟨?_, fun b r h => ?_, fun b r h hI => ?_, fun b b' r r' h h' e => ?_, fun b r h => ?_, ?_⟩, hi.nx, hi.base, hi.size, hi.defers, fun k p h => ?_⟩, ?_, fun _ _ => rfl⟩
  · rintro b (h | ⟨k, _, ⟨r, hr⟩, rfl⟩)
    · exact hi.heap.lt b h
    · exact (hi.heap.rep k r hr).lt
  · obtain ⟨r0, h0, _, rfl⟩ := back b r h
    have := hi.heap.rep b r0 h0
    cases r0 with
    | cells ty cs =>
      obtain ⟨arr, ha, hl, hc⟩ := this
      refine ⟨arr, ha, by simpa using hl, fun j c hj => ?_⟩
      simp only [List.getElem?_map] at hj
      obtain ⟨c0, hc0, rfl⟩ := map_opt hj
      obtain ⟨x, hx, h1x, hr⟩ := hc j c0 hc0
      exact ⟨x, hx, h1x, frzP_rep hi.heap F hr⟩
    | iter t pos => exact this
  · obtain ⟨r0, h0, hF, _⟩ := back b r h
    rcases hI with hI | ⟨k, hk, ⟨r1, h1⟩, e⟩
    · exact hi.heap.apart b r0 h0 hI
    · exact hF ((hi.heap.inj k b r1 r0 h1 h0 e) ▸ hk)
  · obtain ⟨r0, h0, _, _⟩ := back b r h
    obtain ⟨r1, h1, _, _⟩ := back b' r' h'
    exact hi.heap.inj b b' r0 r1 h0 h1 e
  · obtain ⟨r0, h0, _, _⟩ := back b r h
    exact hi.heap.nx b r0 h0
  · exact glob_keep hi.heap hm.keeps
  · simp only [AState.frz] at h
    rw [look_map] at h
    obtain ⟨p0, h0, rfl⟩ := map_opt h
    exact frzP_rep hi.heap F (hi.env k p0 h0)
  · refine ⟨Nat.le_refl _, fun _ _ _ => rfl, fun g h => .inl h, fun g h => ?_, fun g ⟨b, r, h, e⟩ => ?_, Shapes.refl w, Outer.refl w⟩
    · rcases h with h | ⟨k, _, ⟨r, hr⟩, e⟩
      · exact .inl h
      · exact .inr (.inr ⟨k, r, hr, e⟩)
    · obtain ⟨r0, h0, _, _⟩ := back b r h
      exact .inr ⟨b, r0, h0, e⟩

/-! Contracts from compact code. -/

/-- Where a result lies. -/
inductive RV where
  | tmp (t : Nat)
  | cell (t : Nat) (agg : Bool) (n : Nat)

def compRV (P : Program) : ResultVar → Option RV
  | .tmp t => some (.tmp t)
  | .cell a t => (shapeOf P t).map fun q => .cell a q.1 q.2

@[simp] def resM (s : AState) : List RV → Option (List PV)
  | [] => some []
  | .tmp t :: r => match look s.env t, resM s r with
    | some p, some ps => some (p :: ps)
    | _, _ => none
  | .cell a agg n :: r => match look s.env a, resM s r with
    | some (.ptr b o), some ps => match loadM agg n s.H (.ptr b o) with
      | some q => some (q :: ps)
      | none => none
    | _, _ => none

theorem resM_eq : ∀ {rs : List ResultVar} {vs : List RV} {ps : List PV}, rs.mapM (compRV P) = some vs → resM s vs = some ps → resultsV P s rs = some ps
  | [], vs, ps, h, hr => by
    simp at h
    subst h
    simpa only [resM, resultsV] using hr
  | r :: rs, vs, ps, h, hr => by
    simp only [List.mapM_cons, Option.bind_eq_bind, Option.pure_def] at h
    cases h1 : compRV P r with
    | none => rw [h1] at h; cases h
    | some v =>
      rw [h1] at h
      cases h2 : rs.mapM (compRV P) with
      | none => rw [h2] at h; cases h
      | some vs' =>
        rw [h2] at h
        simp only [Option.bind_some, Option.some.injEq] at h
        subst h
        cases r with
        | tmp t =>
          simp only [compRV, Option.some.injEq] at h1
          subst h1
          simp only [resM] at hr
          split at hr
          · rename_i p ps' hp hps
            simp only [resultsV, hp, resM_eq h2 hps]
            exact hr
          · cases hr
        | cell a t =>
          simp only [compRV] at h1
          obtain ⟨⟨agg, n⟩, hs, rfl⟩ := map_opt h1
          simp only [resM] at hr
          split at hr
          · rename_i b o ps' hp hps
            split at hr
            · rename_i q hq
              simp only [resultsV, hp, resM_eq h2 hps, loadM_eq hs, hq, Option.map_some]
              exact hr
            · cases hr
          · cases hr

/-- One result, or a tuple. -/
@[simp] def oneOf : List PV → PV
  | [p] => p
  | ps => match allT ps with
    | some ts => .t (.tu ts)
    | none => .tu ps

/-- Where a body may end. -/
def EndsM (vs : List RV) (R : T → Prop) (e : Exit) (s : AState) : Prop :=
  (e = .normal ∨ e = .ret) ∧ ∃ ps r F, resM s vs = some ps ∧ toT s.H (oneOf ps) = some (r, F) ∧ R r

@[simp] def starts : Nat → List T → List (Nat × PV)
  | _, [] => []
  | k, x :: xs => (k, .t x) :: starts (k + 1) xs

theorem starts_eq : ∀ (xs : List T) (k : Nat), starts k xs = ((xs.map PV.t).zipIdx k).map fun p => (p.2, p.1)
  | [], k => rfl
  | x :: xs, k => by simp [starts, starts_eq xs (k + 1)]

@[simp] def startM (N : Nat) (args : List T) : AState := { env := starts 0 args, H := [], nx := 0, n := N }

theorem callM {f : FuncId} {fn : Func} {c : Code} {M : MCode} {vs : List RV} {args : List T} {R : T → Prop} (hf : P.funcs[f]? = some fn) (hb : fn.body = some c) (hname : (fn.name == "runtime.NumGoroutine") = false)
    (hc : comp P G N c = some M) (hrs : fn.results.toList.mapM (compRV P) = some vs) (hN : args.length + (fn.ntmps - args.length) = N) (h : MC P G 0 N M (EndsM vs R) (startM N args)) : CallT P G f args R := by
  refine ⟨⟨fn, c, hf, hb, hname⟩, fun I w us hlt hglob hargs => calls_of_wp hf hb ?_⟩
  have hlen : us.size = args.length := by simpa using hargs.length
  let L : Loc := ⟨I, fun _ => 0, 0⟩
  have hok : HeapOK P G L [] w := ⟨hlt, fun b r h => by simp [look] at h, fun b r h => by simp [look] at h, fun b b' r r' h => by simp [look] at h, fun b r h => by simp [look] at h, hglob⟩
  have hi : Interp P G 0 L (startM N args) { tmps := us ++ Array.replicate (fn.ntmps - us.size) undef, defers := [] } w := by
    refine ⟨hok, rfl, Nat.zero_le _, by simp [startM, hlen, hN], rfl, fun k p hl => ?_⟩
    simp only [startM, starts_eq] at hl
    obtain ⟨_, hk⟩ := look_zipIdx _ k 0 p hl
    simp only [Nat.sub_zero] at hk
    have hrep := RepVL.ofT (P := P) (L := L) hargs
    obtain ⟨x, hx, hr⟩ := hrep.at_ k hk
    have hx' : us[k]? = some x := by simpa using hx
    have hk' : k < us.size := (Array.getElem?_eq_some_iff.1 hx').1
    rw [Array.getD_eq_getD_getElem?, Array.getElem?_append_left hk', hx']
    exact hr
  refine wp_mono (h c hc rfl L _ w hi) fun e a' w' ⟨s1, L1, q, hi1, hx, _⟩ => ?_
  obtain ⟨he, ps, r, F, hres, hT, hR⟩ := q
  have hrv : resultV P fn s1 = some (oneOf ps) := by
    unfold resultV
    rw [resM_eq hrs hres]
    rcases ps with _ | ⟨x, _ | ⟨y, r⟩⟩ <;> rfl
  obtain ⟨v, hrun, hv⟩ := resultV_run hi1 hrv
  have hrt := toT_rep hi1.heap (oneOf ps) hT hv F (fun _ h => h)
  have nomine : ∀ g, ¬ Mine L [] g := fun g ⟨b, r, h, _⟩ => by simp [look] at h
  have hfin : a'.defers = [] ∧ ∃ v, (results fn a'.tmps).run P w' = .ok v w' ∧
      ∃ v' r I', Ending.returned v = .returned v' ∧ R r ∧ RepT I' w' r v' ∧ Outer w w' ∧ w.heap.size ≤ w'.heap.size ∧ (∀ g, g < w.heap.size → w'.heap[g]? = w.heap[g]?) ∧
      (∀ g, I g → I' g) ∧ (∀ g, I' g → I g ∨ w.heap.size ≤ g) ∧ (∀ g, I' g → g < w'.heap.size) := by
    refine ⟨hi1.defers, v, hrun, v, r, _, rfl, hR, hrt, hx.outer, hx.size, fun g hg => hx.same g hg (nomine g), fun g hg => .inl (hx.more g hg), fun g hg => ?_, fun g hg => ?_⟩
    · rcases hg with hg | ⟨b, _, ⟨r0, h0⟩, e0⟩
      · rcases hx.new g hg with h | h | h
        · exact .inl h
        · exact .inr h
        · exact absurd h (nomine g)
      · rcases hx.mine g ⟨b, r0, h0, e0⟩ with h | h
        · exact .inr h
        · exact absurd h (nomine g)
    · rcases hg with hg | ⟨b, _, ⟨r0, h0⟩, rfl⟩
      · exact hi1.heap.lt g hg
      · exact (hi1.heap.rep b r0 h0).lt
  rcases he with rfl | rfl
  · exact hfin
  · exact hfin

/-- Where a body may end that was handed rows. -/
def EndsP (P : Program) (G : Globs) (B : Nat) (vs : List RV) (R : PV → Heap → Nat → Prop) (e : Exit) (s : AState) : Prop :=
  (e = .normal ∨ e = .ret) ∧ ∃ s2 ps, Sub P G B s s2 ∧ resM s2 vs = some ps ∧ R (oneOf ps) s2.H s2.nx

@[simp] def startsP : Nat → List PV → List (Nat × PV)
  | _, [] => []
  | k, x :: xs => (k, x) :: startsP (k + 1) xs

theorem startsP_eq : ∀ (xs : List PV) (k : Nat), startsP k xs = (xs.zipIdx k).map fun p => (p.2, p.1)
  | [], k => rfl
  | x :: xs, k => by simp [startsP, startsP_eq xs (k + 1)]

theorem callMP {f : FuncId} {fn : Func} {c : Code} {M : MCode} {vs : List RV} {ps : List PV} {H H' : Heap} {nx nx' : Nat} {r : PV} (hf : P.funcs[f]? = some fn) (hb : fn.body = some c) (hname : (fn.name == "runtime.NumGoroutine") = false)
    (hc : comp P G N c = some M) (hrs : fn.results.toList.mapM (compRV P) = some vs) (hN : ps.length + (fn.ntmps - ps.length) = N)
    (h : MC P G nx N M (EndsP P G nx vs fun r0 H0 nx0 => r0 = r ∧ H0 = H' ∧ nx0 = nx') ⟨startsP 0 ps, H, nx, N⟩) : CallP P G f ps H nx r H' nx' := by
  refine ⟨⟨fn, c, hf, hb, hname⟩, fun L w us hok hnx hargs => calls_of_wp hf hb ?_⟩
  have hlen : us.size = ps.length := by simpa using hargs.length
  have hi : Interp P G nx L ⟨startsP 0 ps, H, nx, N⟩ { tmps := us ++ Array.replicate (fn.ntmps - us.size) undef, defers := [] } w := by
    refine ⟨hok, hnx, by rw [hnx]; exact Nat.le_refl _, by simp [hlen, hN], rfl, fun k p hl => ?_⟩
    simp only [startsP_eq] at hl
    obtain ⟨_, hk⟩ := look_zipIdx _ k 0 p hl
    simp only [Nat.sub_zero] at hk
    obtain ⟨x, hx, hr⟩ := hargs.at_ k hk
    have hx' : us[k]? = some x := by simpa using hx
    have hk' : k < us.size := (Array.getElem?_eq_some_iff.1 hx').1
    rw [Array.getD_eq_getD_getElem?, Array.getElem?_append_left hk', hx']
    exact hr
  refine wp_mono (h c hc rfl L _ w hi) fun e a' w' ⟨s1, L1, q, hi1, hx, hμ⟩ => ?_
  obtain ⟨he, s2, rs, hsub, hres, hr, hH, hnx2⟩ := q
  obtain ⟨L2, hi2, hx2, hμ2⟩ := hsub L1 a' w' hi1
  have hrv : resultV P fn s2 = some (oneOf rs) := by
    unfold resultV
    rw [resM_eq hrs hres]
    rcases rs with _ | ⟨x, _ | ⟨y, r⟩⟩ <;> rfl
  obtain ⟨v, hrun, hv⟩ := resultV_run hi2 hrv
  have hxx := hx.trans hx2
  have hm : Mono L w L2 w' := ⟨hxx.keeps hok, by rw [hnx]; exact hi2.base, fun b hb => (hμ2 b (by omega)).trans (hμ b (by omega)), hxx.size, hxx.shape⟩
  have hfin : a'.defers = [] ∧ ∃ v, (results fn a'.tmps).run P w' = .ok v w' ∧
      ∃ v' L', Ending.returned v = .returned v' ∧ RepV P L' w' r v' ∧ HeapOK P G L' H' w' ∧ L'.nx = nx' ∧ Mono L w L' w' ∧ Ext L H w L' H' w' :=
    ⟨hi2.defers, v, hrun, v, L2, rfl, hr ▸ hv, hH ▸ hi2.heap, hi2.nx.trans hnx2, hm, hH ▸ hxx⟩
  rcases he with rfl | rfl
  · exact hfin
  · exact hfin
end
end Go.Abs

namespace Go.Abs
set_option linter.unusedSimpArgs false
set_option linter.unusedVariables false
open Go

/-- Function f takes k arguments and has the compact code M over N slots, its results in vs. -/
def FnOK (P : Program) (G : Globs) (f : FuncId) (k N : Nat) (M : MCode) (vs : List RV) : Prop :=
  ∃ fn, P.funcs[f]? = some fn ∧ (fn.name == "runtime.NumGoroutine") = false ∧ fn.body.bind (comp P G N) = some M ∧ fn.results.toList.mapM (compRV P) = some vs ∧ k + (fn.ntmps - k) = N

theorem FnOK.call {P : Program} {G : Globs} {f : FuncId} {k N : Nat} {M : MCode} {vs : List RV} (h : FnOK P G f k N M vs) {args : List T} (hk : args.length = k) {R : T → Prop}
    (hm : MC P G 0 N M (EndsM vs R) (startM N args)) : CallT P G f args R := by
  obtain ⟨fn, hf, hn, hb, hr, hN⟩ := h
  cases hbody : fn.body with
  | none => rw [hbody] at hb; cases hb
  | some c =>
    rw [hbody] at hb
    exact callM hf hbody hn hb hr (by rw [hk]; exact hN) hm

theorem FnOK.callP {P : Program} {G : Globs} {f : FuncId} {k N : Nat} {M : MCode} {vs : List RV} (h : FnOK P G f k N M vs) {ps : List PV} {H H' : Heap} {nx nx' : Nat} {r : PV} (hk : ps.length = k)
    (hm : MC P G nx N M (EndsP P G nx vs fun r0 H0 nx0 => r0 = r ∧ H0 = H' ∧ nx0 = nx') ⟨startsP 0 ps, H, nx, N⟩) : CallP P G f ps H nx r H' nx' := by
  obtain ⟨fn, hf, hn, hb, hr, hN⟩ := h
  cases hbody : fn.body with
  | none => rw [hbody] at hb; cases hb
  | some c =>
    rw [hbody] at hb
    exact callMP hf hbody hn hb hr (by rw [hk]; exact hN) hm

/-- A body without loops: run it. -/
theorem FnOK.run {P : Program} {G : Globs} {Φ : Oracle} {f : FuncId} {k N : Nat} {M : MCode} {vs : List RV} (h : FnOK P G f k N M vs) (hΦ : Ctx P G Φ) {args : List T} (hk : args.length = k) {R : T → Prop} {e : Exit} {s : AState}
    (hm : runM Φ M (startM N args) = some (e, s)) (he : EndsM vs R e s) : CallT P G f args R :=
  h.call hk (mc_run hΦ M hm he)
end Go.Abs

namespace Go.Abs
set_option linter.unusedSimpArgs false
set_option linter.unusedVariables false
open Go

/-- What is to be shown of a value that must be there. -/
def ifSome {α : Type} (x : Option α) (K : α → Prop) : Prop :=
  match x with
  | some a => K a
  | none => False

@[simp] theorem ifSome_some {α : Type} (a : α) (K : α → Prop) : ifSome (some a) K = K a := rfl
@[simp] theorem ifSome_none {α : Type} (K : α → Prop) : ifSome (none : Option α) K = False := rfl
@[simp] theorem ifSome_map {α β : Type} (x : Option α) (f : α → β) (K : β → Prop) : ifSome (x.map f) K = ifSome x fun a => K (f a) := by cases x <;> rfl

theorem ifSome_elim {α : Type} {x : Option α} {K : α → Prop} (h : ifSome x K) : ∃ a, x = some a ∧ K a := by
  cases x with
  | none => exact h.elim
  | some a => exact ⟨a, rfl, h⟩

/-- Where a guarded operation goes. -/
def onWants (x : Option Bool) (yes no : Prop) : Prop :=
  match x with
  | some true => yes
  | some false => no
  | none => False

@[simp] theorem onWants_true (yes no : Prop) : onWants (some true) yes no = yes := rfl
@[simp] theorem onWants_false (yes no : Prop) : onWants (some false) yes no = no := rfl

def AState.set (s : AState) (d : Option Nat) (q : PV × Heap × Nat) : AState :=
  match d with
  | some k => ⟨(k, q.1) :: s.env, q.2.1, q.2.2, s.n⟩
  | none => ⟨s.env, q.2.1, q.2.2, s.n⟩

theorem set_put (s : AState) (d : Option Nat) (r : PV) (H : Heap) (nx : Nat) : s.set d (r, H, nx) = ({ s with H := H, nx := nx } : AState).put d r := by cases d <;> rfl

def stepsM (Φ : Oracle) (s : AState) (m : Mini) (K : AState → Prop) : Prop :=
  onWants (m.wants s.env) (ifSome (evalK Φ s.H s.nx m.k (m.xs.map (·.ev s.env))) fun q => K (s.set m.dst q)) (K (s.set m.dst (.t (.v undef), s.H, s.nx)))

def runsL (Φ : Oracle) : List Mini → AState → (AState → Prop) → Prop
  | [], s, K => K s
  | m :: r, s, K => stepsM Φ s m fun s' => runsL Φ r s' K

/-- The same in a region that draws its order: a call's rows stay. -/
def stepsD (Φ : Oracle) (s : AState) (m : Mini) (K : AState → Prop) : Prop :=
  if quietK m.k then onWants (m.wants s.env) (ifSome (evalQ Φ s.H s.nx m.k (m.xs.map (·.ev s.env))) fun v => K (s.set m.dst (v, s.H, s.nx))) (K (s.set m.dst (.t (.v undef), s.H, s.nx)))
  else stepsM Φ s m K

def runsD (Φ : Oracle) : List Mini → AState → (AState → Prop) → Prop
  | [], s, K => K s
  | m :: r, s, K => stepsD Φ s m fun s' => runsD Φ r s' K

/-- Looks again. -/
def agains (Φ : Oracle) (pd : Pend) (H : Heap) (nx : Nat) : List Nat → Prop → Prop
  | [], K => K
  | i :: r, K => ifSome (look pd i) fun x => evalQ Φ H nx x.1 x.2.1 = some x.2.2 ∧ agains Φ pd H nx r K

def runsG (Φ : Oracle) (k : Nat) : Nat → Nat → Pend → List GI → AState → (AState → Prop) → Prop
  | _, _, _, [], s, K => K s
  | n, b, pd, .o m kp ag :: r, s, K => ifSome (valD Φ s m) fun q => agains Φ pd q.2.1 q.2.2 ag (runsG Φ k (n + 1) b (keepG kp n m s q.1 pd) r (s.set m.dst q) K)
  | n, b, pd, .g j m :: r, s, K => ifSome (evalK Φ s.H ((if j = 0 then s.nx else b) + k + j) m.k (m.xs.map (·.ev s.env))) fun q => runsG Φ k (n + 1) (if j = 0 then s.nx else b) pd r (s.set m.dst (q.1, q.2.1, (if j = 0 then s.nx else b) + 2 * k)) K

/-- Behind a piece of code. -/
def onNormal (K : AState → Prop) (Q : Exit → AState → Prop) : Exit → AState → Prop
  | .normal, s => K s
  | e, s => Q e s

@[simp] theorem onNormal_normal (K : AState → Prop) (Q : Exit → AState → Prop) (s : AState) : onNormal K Q .normal s = K s := rfl
@[simp] theorem onNormal_ret (K : AState → Prop) (Q : Exit → AState → Prop) (s : AState) : onNormal K Q .ret s = Q .ret s := rfl
@[simp] theorem onNormal_exit (K : AState → Prop) (Q : Exit → AState → Prop) (i : Nat) (s : AState) : onNormal K Q (.exit i) s = Q (.exit i) s := rfl
@[simp] theorem inBlock_normal (i : Nat) (Q : Exit → AState → Prop) (s : AState) : InBlock i Q .normal s = Q .normal s := rfl
@[simp] theorem inBlock_ret (i : Nat) (Q : Exit → AState → Prop) (s : AState) : InBlock i Q .ret s = Q .ret s := rfl
@[simp] theorem inBlock_exit (i j : Nat) (Q : Exit → AState → Prop) (s : AState) : InBlock i Q (.exit j) s = if j = i then Q .normal s else Q (.exit j) s := rfl

@[simp] theorem noGoto_normal (Q : Exit → AState → Prop) (s : AState) : NoGoto Q .normal s = Q .normal s := rfl
@[simp] theorem noGoto_ret (Q : Exit → AState → Prop) (s : AState) : NoGoto Q .ret s = Q .ret s := rfl
@[simp] theorem noGoto_exit (i : Nat) (Q : Exit → AState → Prop) (s : AState) : NoGoto Q (.exit i) s = Q (.exit i) s := rfl

def onBool (p : PV) (yes no : Prop) : Prop :=
  match p with
  | .t (.v (.bool true)) => yes
  | .t (.v (.bool false)) => no
  | _ => False

@[simp] theorem onBool_true (yes no : Prop) : onBool (.t (.v (.bool true))) yes no = yes := rfl
@[simp] theorem onBool_false (yes no : Prop) : onBool (.t (.v (.bool false))) yes no = no := rfl

def runsM (Φ : Oracle) : MCode → AState → (Exit → AState → Prop) → Prop
  | .skip, s, Q => Q .normal s
  | .ops l, s, Q => runsL Φ l s (Q .normal)
  | .draw l, s, Q => runsD Φ l s (Q .normal)
  | .drawG k l, s, Q => runsG Φ k 0 0 [] l s (Q .normal)
  | .seq a b, s, Q => runsM Φ a s (onNormal (fun s1 => runsM Φ b s1 Q) Q)
  | .cond c a b, s, Q => onBool (c.ev s.env) (runsM Φ a s Q) (runsM Φ b s Q)
  | .block id b, s, Q => runsM Φ b s (InBlock id Q)
  | .loop _, _, _ => False
  | .exit id, s, Q => Q (.exit id) s
  | .ret, s, Q => Q .ret s
  | .scope b, s, Q => runsM Φ b s (NoGoto Q)

section
variable {P : Program} {G : Globs} {B N : Nat} {Φ : Oracle}

theorem stepsM_run {s : AState} {m : Mini} {K : AState → Prop} (h : stepsM Φ s m K) : ∃ s', stepM Φ s m = some s' ∧ K s' := by
  unfold stepsM at h
  unfold stepM
  cases hw : m.wants s.env with
  | none => rw [hw] at h; exact h.elim
  | some b =>
    rw [hw] at h
    cases b with
    | true =>
      obtain ⟨⟨r, H', nx'⟩, hq, hk⟩ := ifSome_elim h
      exact ⟨_, by simp only [hq]; rfl, by rw [set_put] at hk; exact hk⟩
    | false => exact ⟨_, rfl, by simp only [onWants_false, set_put] at h; exact h⟩

theorem runsL_run : ∀ {l : List Mini} {s : AState} {K : AState → Prop}, runsL Φ l s K → ∃ s', runL Φ l s = some s' ∧ K s'
  | [], s, K, h => ⟨s, rfl, h⟩
  | m :: r, s, K, h => by
    obtain ⟨s1, h1, h2⟩ := stepsM_run h
    obtain ⟨s2, h3, h4⟩ := runsL_run h2
    exact ⟨s2, by simp only [runL, h1, h3], h4⟩

theorem stepsD_run {s : AState} {m : Mini} {K : AState → Prop} (h : stepsD Φ s m K) : ∃ s', stepD Φ s m = some s' ∧ K s' := by
  unfold stepsD at h
  unfold stepD
  split at h
  · rename_i hq
    rw [if_pos hq]
    unfold valQ
    cases hw : m.wants s.env with
    | none => rw [hw] at h; exact h.elim
    | some b =>
      rw [hw] at h
      cases b with
      | true =>
        obtain ⟨v, hv, hk⟩ := ifSome_elim h
        exact ⟨_, by simp only [hv]; rfl, by rw [set_put] at hk; exact hk⟩
      | false => exact ⟨_, rfl, by simp only [onWants_false, set_put] at h; exact h⟩
  · rename_i hq
    rw [if_neg hq]
    exact stepsM_run h

theorem runsD_run : ∀ {l : List Mini} {s : AState} {K : AState → Prop}, runsD Φ l s K → ∃ s', runD Φ l s = some s' ∧ K s'
  | [], s, K, h => ⟨s, rfl, h⟩
  | m :: r, s, K, h => by
    obtain ⟨s1, h1, h2⟩ := stepsD_run h
    obtain ⟨s2, h3, h4⟩ := runsD_run h2
    exact ⟨s2, by simp only [runD, h1, h3], h4⟩

theorem agains_run {pd : Pend} {H : Heap} {nx : Nat} {K : Prop} : ∀ {ks : List Nat}, agains Φ pd H nx ks K → agnP Φ pd H nx ks ∧ K
  | [], h => ⟨fun i hi => by simp at hi, h⟩
  | i :: r, h => by
    obtain ⟨x, hx, he, hr⟩ := ifSome_elim h
    obtain ⟨h1, h2⟩ := agains_run hr
    refine ⟨fun j hj => ?_, h2⟩
    rcases List.mem_cons.1 hj with rfl | hj
    · exact ⟨x, hx, he⟩
    · exact h1 j hj

theorem runsG_run {k : Nat} : ∀ (l : List GI) {n b : Nat} {pd : Pend} {s : AState} {K : AState → Prop}, runsG Φ k n b pd l s K → ∃ s', runG Φ k n b pd l s = some s' ∧ K s'
  | [], n, b, pd, s, K, h => ⟨s, rfl, h⟩
  | .o m kp ag :: r, n, b, pd, s, K, h => by
    obtain ⟨⟨v, H', nx'⟩, hv, hk⟩ := ifSome_elim h
    obtain ⟨h1, h2⟩ := agains_run hk
    rw [set_put] at h2
    obtain ⟨s', h3, h4⟩ := runsG_run r h2
    exact ⟨s', by simp only [runG, hv, if_pos h1, h3], h4⟩
  | .g j m :: r, n, b, pd, s, K, h => by
    obtain ⟨⟨v, H', nx'⟩, hv, hk⟩ := ifSome_elim h
    rw [set_put] at hk
    obtain ⟨s', h3, h4⟩ := runsG_run r hk
    exact ⟨s', by simp only [runG, hv, h3], h4⟩

theorem runsM_run : ∀ (M : MCode) {s : AState} {Q : Exit → AState → Prop}, runsM Φ M s Q → ∃ e s', runM Φ M s = some (e, s') ∧ Q e s'
  | .skip, s, Q, h => ⟨_, _, rfl, h⟩
  | .ops l, s, Q, h => by
    obtain ⟨s1, h1, h2⟩ := runsL_run h
    exact ⟨_, s1, by simp only [runM, h1], h2⟩
  | .draw l, s, Q, h => by
    obtain ⟨s1, h1, h2⟩ := runsD_run h
    exact ⟨_, s1, by simp only [runM, h1], h2⟩
  | .drawG k l, s, Q, h => by
    obtain ⟨s1, h1, h2⟩ := runsG_run l h
    exact ⟨_, s1, by simp only [runM, h1], h2⟩
  | .seq a b, s, Q, h => by
    obtain ⟨e, s1, h1, h2⟩ := runsM_run a h
    cases e
    case normal =>
      obtain ⟨e2, s2, h3, h4⟩ := runsM_run b h2
      exact ⟨e2, s2, by simp only [runM, h1, h3], h4⟩
    all_goals exact ⟨_, s1, by simp only [runM, h1], h2⟩
  | .cond c a b, s, Q, h => by
    simp only [runsM] at h
    unfold onBool at h
    split at h
    · rename_i hc
      obtain ⟨e, s1, h1, h2⟩ := runsM_run a h
      exact ⟨e, s1, by simp only [runM, hc, cond_true, h1], h2⟩
    · rename_i hc
      obtain ⟨e, s1, h1, h2⟩ := runsM_run b h
      exact ⟨e, s1, by simp only [runM, hc, cond_false, h1], h2⟩
    · exact h.elim
  | .block id b, s, Q, h => by
    obtain ⟨e, s1, h1, h2⟩ := runsM_run b h
    cases e
    case exit i =>
      simp only [inBlock_exit] at h2
      by_cases hi : i = id
      · rw [if_pos hi] at h2; exact ⟨.normal, s1, by simp only [runM, h1, if_pos hi], h2⟩
      · rw [if_neg hi] at h2; exact ⟨.exit i, s1, by simp only [runM, h1, if_neg hi], h2⟩
    all_goals exact ⟨_, s1, by simp only [runM, h1], h2⟩
  | .loop _, s, Q, h => h.elim
  | .exit id, s, Q, h => ⟨_, _, rfl, h⟩
  | .ret, s, Q, h => ⟨_, _, rfl, h⟩
  | .scope b, s, Q, h => by
    obtain ⟨e, s1, h1, h2⟩ := runsM_run b h
    cases e
    case goto l => exact h2.elim
    all_goals exact ⟨_, s1, by simp only [runM, h1], h2⟩

theorem mc_runs (hΦ : Ctx P G Φ) {M : MCode} {s : AState} {Q : Exit → AState → Prop} (h : runsM Φ M s Q) : MC P G B N M Q s := by
  obtain ⟨e, s', h1, h2⟩ := runsM_run M h
  exact mc_run hΦ M h1 h2

/-- Behind code without loops go other pieces. -/
theorem mc_seq_runs (hΦ : Ctx P G Φ) {a b : MCode} {s : AState} {Q : Exit → AState → Prop} (h : runsM Φ a s (onNormal (fun s1 => MC P G B N b Q s1) Q)) : MC P G B N (.seq a b) Q s := by
  obtain ⟨e, s', h1, h2⟩ := runsM_run a h
  intro c hc hn
  refine mc_seq ?_ c hc hn
  refine mc_run hΦ a h1 ?_
  cases e
  case normal => exact ⟨(runM_n a h1).trans hn, h2⟩
  all_goals exact h2

theorem FnOK.runs {f : FuncId} {k : Nat} {M : MCode} {vs : List RV} (h : FnOK P G f k N M vs) (hΦ : Ctx P G Φ) {args : List T} (hk : args.length = k) {R : T → Prop}
    (hm : runsM Φ M (startM N args) (EndsM vs R)) : CallT P G f args R := h.call hk (mc_runs hΦ hm)

/-- An end, told by the result. -/
theorem ends_of {vs : List RV} {R : T → Prop} {s : AState} {ps : List PV} {r : T} {F : List Nat} (h1 : resM s vs = some ps) (h2 : toT s.H (oneOf ps) = some (r, F)) (h3 : R r) : EndsM vs R .ret s := ⟨.inr rfl, ps, r, F, h1, h2, h3⟩

def endM (vs : List RV) (R : T → Prop) (s : AState) : Prop := ifSome (resM s vs) fun ps => ifSome (toT s.H (oneOf ps)) fun q => R q.1

@[simp] theorem endsM_ret {vs : List RV} {R : T → Prop} {s : AState} : EndsM vs R .ret s = endM vs R s := by
  apply propext
  constructor
  · rintro ⟨_, ps, r, F, h1, h2, h3⟩
    unfold endM
    rw [h1, ifSome_some, h2]
    exact h3
  · intro h
    obtain ⟨ps, h1, h⟩ := ifSome_elim h
    obtain ⟨q, h2, h3⟩ := ifSome_elim h
    exact ⟨.inr rfl, ps, q.1, q.2, h1, h2, h3⟩
end
end Go.Abs

namespace Go.Abs
set_option linter.unusedSimpArgs false
set_option linter.unusedVariables false
open Go
section
variable {Φ : Oracle} {H : Heap} {nx : Nat}
@[simp] theorem evalK_mv  (x : PV) : evalK Φ H nx .mv [x] = some (x, H, nx) := rfl
@[simp] theorem quietK_mv  : quietK .mv = true := rfl
@[simp] theorem evalQ_mv  (ps : List PV) : evalQ Φ H nx .mv ps = (evalK Φ H nx .mv ps).map (·.1) := rfl
@[simp] theorem evalK_un (op : UnOp) (a : Value) : evalK Φ H nx (.un op) [.t (.v a)] = (unV op a).map fun v => (.t (.v v), H, nx) := rfl
@[simp] theorem quietK_un (op : UnOp) : quietK (.un op) = true := rfl
@[simp] theorem evalQ_un (op : UnOp) (ps : List PV) : evalQ Φ H nx (.un op) ps = (evalK Φ H nx (.un op) ps).map (·.1) := rfl
@[simp] theorem evalK_conv (k : Option IntKind) (x : PV) : evalK Φ H nx (.conv k) [x] = (convM k x).map fun r => (r, H, nx) := rfl
@[simp] theorem quietK_conv (k : Option IntKind) : quietK (.conv k) = true := rfl
@[simp] theorem evalQ_conv (k : Option IntKind) (ps : List PV) : evalQ Φ H nx (.conv k) ps = (evalK Φ H nx (.conv k) ps).map (·.1) := rfl
@[simp] theorem evalK_load (agg : Bool) (n : Nat) (x : PV) : evalK Φ H nx (.load agg n) [x] = (loadM agg n H x).map fun r => (r, H, nx) := rfl
@[simp] theorem quietK_load (agg : Bool) (n : Nat) : quietK (.load agg n) = true := rfl
@[simp] theorem evalQ_load (agg : Bool) (n : Nat) (ps : List PV) : evalQ Φ H nx (.load agg n) ps = (evalK Φ H nx (.load agg n) ps).map (·.1) := rfl
@[simp] theorem evalK_faddr (off : Nat) (x : PV) : evalK Φ H nx (.faddr off) [x] = (faddrM off x).map fun r => (r, H, nx) := rfl
@[simp] theorem quietK_faddr (off : Nat) : quietK (.faddr off) = true := rfl
@[simp] theorem evalQ_faddr (off : Nat) (ps : List PV) : evalQ Φ H nx (.faddr off) ps = (evalK Φ H nx (.faddr off) ps).map (·.1) := rfl
@[simp] theorem evalK_field (off : Nat) (agg : Bool) (n : Nat) (x : PV) : evalK Φ H nx (.field off agg n) [x] = (fieldM off agg n x).map fun r => (r, H, nx) := rfl
@[simp] theorem quietK_field (off : Nat) (agg : Bool) (n : Nat) : quietK (.field off agg n) = true := rfl
@[simp] theorem evalQ_field (off : Nat) (agg : Bool) (n : Nat) (ps : List PV) : evalQ Φ H nx (.field off agg n) ps = (evalK Φ H nx (.field off agg n) ps).map (·.1) := rfl
@[simp] theorem evalK_iaddr (z : Nat) (x : PV) (i : PV) : evalK Φ H nx (.iaddr z) [x, i] = (iaddrM z x i).map fun r => (r, H, nx) := rfl
@[simp] theorem quietK_iaddr (z : Nat) : quietK (.iaddr z) = true := rfl
@[simp] theorem evalQ_iaddr (z : Nat) (ps : List PV) : evalQ Φ H nx (.iaddr z) ps = (evalK Φ H nx (.iaddr z) ps).map (·.1) := rfl
@[simp] theorem evalK_aaddr (n z : Nat) (x : PV) (i : PV) : evalK Φ H nx (.aaddr n z) [x, i] = (aaddrM n z x i).map fun r => (r, H, nx) := rfl
@[simp] theorem quietK_aaddr (n z : Nat) : quietK (.aaddr n z) = true := rfl
@[simp] theorem evalQ_aaddr (n z : Nat) (ps : List PV) : evalQ Φ H nx (.aaddr n z) ps = (evalK Φ H nx (.aaddr n z) ps).map (·.1) := rfl
@[simp] theorem evalK_index  (x : PV) (i : PV) : evalK Φ H nx .index [x, i] = (indexM x i).map fun r => (r, H, nx) := rfl
@[simp] theorem quietK_index  : quietK .index = true := rfl
@[simp] theorem evalQ_index  (ps : List PV) : evalQ Φ H nx .index ps = (evalK Φ H nx .index ps).map (·.1) := rfl
@[simp] theorem evalK_slstr00  (x : PV) : evalK Φ H nx (.slstr false false) [x] = (slstrM x none none).map fun r => (r, H, nx) := rfl
@[simp] theorem quietK_slstr00  : quietK (.slstr false false) = true := rfl
@[simp] theorem evalQ_slstr00  (ps : List PV) : evalQ Φ H nx (.slstr false false) ps = (evalK Φ H nx (.slstr false false) ps).map (·.1) := rfl
@[simp] theorem evalK_slstr10  (x : PV) (i : PV) : evalK Φ H nx (.slstr true false) [x, i] = (slstrM x (some i) none).map fun r => (r, H, nx) := rfl
@[simp] theorem quietK_slstr10  : quietK (.slstr true false) = true := rfl
@[simp] theorem evalQ_slstr10  (ps : List PV) : evalQ Φ H nx (.slstr true false) ps = (evalK Φ H nx (.slstr true false) ps).map (·.1) := rfl
@[simp] theorem evalK_slstr01  (x : PV) (i : PV) : evalK Φ H nx (.slstr false true) [x, i] = (slstrM x none (some i)).map fun r => (r, H, nx) := rfl
@[simp] theorem quietK_slstr01  : quietK (.slstr false true) = true := rfl
@[simp] theorem evalQ_slstr01  (ps : List PV) : evalQ Φ H nx (.slstr false true) ps = (evalK Φ H nx (.slstr false true) ps).map (·.1) := rfl
@[simp] theorem evalK_slstr11  (x : PV) (i : PV) (j : PV) : evalK Φ H nx (.slstr true true) [x, i, j] = (slstrM x (some i) (some j)).map fun r => (r, H, nx) := rfl
@[simp] theorem quietK_slstr11  : quietK (.slstr true true) = true := rfl
@[simp] theorem evalQ_slstr11  (ps : List PV) : evalQ Φ H nx (.slstr true true) ps = (evalK Φ H nx (.slstr true true) ps).map (·.1) := rfl
@[simp] theorem evalK_slice00 (z : Nat) (x : PV) : evalK Φ H nx (.slice z false false) [x] = (sliceM z x none none).map fun r => (r, H, nx) := rfl
@[simp] theorem quietK_slice00 (z : Nat) : quietK (.slice z false false) = true := rfl
@[simp] theorem evalQ_slice00 (z : Nat) (ps : List PV) : evalQ Φ H nx (.slice z false false) ps = (evalK Φ H nx (.slice z false false) ps).map (·.1) := rfl
@[simp] theorem evalK_slice10 (z : Nat) (x : PV) (i : PV) : evalK Φ H nx (.slice z true false) [x, i] = (sliceM z x (some i) none).map fun r => (r, H, nx) := rfl
@[simp] theorem quietK_slice10 (z : Nat) : quietK (.slice z true false) = true := rfl
@[simp] theorem evalQ_slice10 (z : Nat) (ps : List PV) : evalQ Φ H nx (.slice z true false) ps = (evalK Φ H nx (.slice z true false) ps).map (·.1) := rfl
@[simp] theorem evalK_slice01 (z : Nat) (x : PV) (i : PV) : evalK Φ H nx (.slice z false true) [x, i] = (sliceM z x none (some i)).map fun r => (r, H, nx) := rfl
@[simp] theorem quietK_slice01 (z : Nat) : quietK (.slice z false true) = true := rfl
@[simp] theorem evalQ_slice01 (z : Nat) (ps : List PV) : evalQ Φ H nx (.slice z false true) ps = (evalK Φ H nx (.slice z false true) ps).map (·.1) := rfl
@[simp] theorem evalK_slice11 (z : Nat) (x : PV) (i : PV) (j : PV) : evalK Φ H nx (.slice z true true) [x, i, j] = (sliceM z x (some i) (some j)).map fun r => (r, H, nx) := rfl
@[simp] theorem quietK_slice11 (z : Nat) : quietK (.slice z true true) = true := rfl
@[simp] theorem evalQ_slice11 (z : Nat) (ps : List PV) : evalQ Φ H nx (.slice z true true) ps = (evalK Φ H nx (.slice z true true) ps).map (·.1) := rfl
@[simp] theorem evalK_ext (n : Nat) (x : PV) : evalK Φ H nx (.ext n) [x] = (extractV x n).map fun r => (r, H, nx) := rfl
@[simp] theorem quietK_ext (n : Nat) : quietK (.ext n) = true := rfl
@[simp] theorem evalQ_ext (n : Nat) (ps : List PV) : evalQ Φ H nx (.ext n) ps = (evalK Φ H nx (.ext n) ps).map (·.1) := rfl
@[simp] theorem evalK_chk  (x : PV) : evalK Φ H nx .chk [x] = (chkM x).map fun r => (r, H, nx) := rfl
@[simp] theorem quietK_chk  : quietK .chk = true := rfl
@[simp] theorem evalQ_chk  (ps : List PV) : evalQ Φ H nx .chk ps = (evalK Φ H nx .chk ps).map (·.1) := rfl
@[simp] theorem evalK_lenstr  (x : PV) : evalK Φ H nx .lenstr [x] = (lenstrM x).map fun r => (r, H, nx) := rfl
@[simp] theorem quietK_lenstr  : quietK .lenstr = true := rfl
@[simp] theorem evalQ_lenstr  (ps : List PV) : evalQ Φ H nx .lenstr ps = (evalK Φ H nx .lenstr ps).map (·.1) := rfl
@[simp] theorem evalK_lensl  (x : PV) : evalK Φ H nx .lensl [x] = (lenslM x).map fun r => (r, H, nx) := rfl
@[simp] theorem quietK_lensl  : quietK .lensl = true := rfl
@[simp] theorem evalQ_lensl  (ps : List PV) : evalQ Φ H nx .lensl ps = (evalK Φ H nx .lensl ps).map (·.1) := rfl
@[simp] theorem evalK_min  (x : PV) (i : PV) : evalK Φ H nx .min [x, i] = (minV x i).map fun r => (r, H, nx) := rfl
@[simp] theorem quietK_min  : quietK .min = true := rfl
@[simp] theorem evalQ_min  (ps : List PV) : evalQ Φ H nx .min ps = (evalK Φ H nx .min ps).map (·.1) := rfl
@[simp] theorem evalK_max  (x : PV) (i : PV) : evalK Φ H nx .max [x, i] = (maxV x i).map fun r => (r, H, nx) := rfl
@[simp] theorem quietK_max  : quietK .max = true := rfl
@[simp] theorem evalQ_max  (ps : List PV) : evalQ Φ H nx .max ps = (evalK Φ H nx .max ps).map (·.1) := rfl
@[simp] theorem evalK_store (n : Nat) (x : PV) (i : PV) : evalK Φ H nx (.store n) [x, i] = (storeM n H x i).map fun H' => (.t (.v undef), H', nx) := rfl
@[simp] theorem quietK_store (n : Nat) : quietK (.store n) = false := rfl
@[simp] theorem evalK_make (e n b : Nat) (zc : List Value) (x : PV) (i : PV) : evalK Φ H nx (.make e n b zc) [x, i] = (makeM e n b zc x i nx).map fun q => (q.1, (nx, q.2) :: H, nx + 1) := rfl
@[simp] theorem quietK_make (e n b : Nat) (zc : List Value) : quietK (.make e n b zc) = false := rfl
@[simp] theorem evalK_bslice (e n : Nat) (zc : List Value) (len : Nat) (idx : List Nat) (ps : List PV) : evalK Φ H nx (.bslice e n zc len idx) ps = (bsliceM e n zc len (idx.zip ps) nx).map fun q => (q.1, (nx, q.2) :: H, nx + 1) := rfl
@[simp] theorem quietK_bslice (e n : Nat) (zc : List Value) (len : Nat) (idx : List Nat)  : quietK (.bslice e n zc len idx) = false := rfl
@[simp] theorem evalK_build (places : List (Nat × Nat)) (zc : List Value) (idx : List Nat) (ps : List PV) : evalK Φ H nx (.build places zc idx) ps = (fillP (fun k => places[k]?) (zc.map fun x => .t (.v x)) (idx.zip ps)).map fun cs => (agOf cs, H, nx) := rfl
@[simp] theorem quietK_build (places : List (Nat × Nat)) (zc : List Value) (idx : List Nat)  : quietK (.build places zc idx) = true := rfl
@[simp] theorem evalQ_build (places : List (Nat × Nat)) (zc : List Value) (idx : List Nat)  (ps : List PV) : evalQ Φ H nx (.build places zc idx) ps = (evalK Φ H nx (.build places zc idx) ps).map (·.1) := rfl
@[simp] theorem evalK_barr (n : Nat) (zc : List Value) (idx : List Nat) (ps : List PV) : evalK Φ H nx (.barr n zc idx) ps = (fillP (fun k => some (k * n, n)) (zc.map fun x => .t (.v x)) (idx.zip ps)).map fun cs => (agOf cs, H, nx) := rfl
@[simp] theorem quietK_barr (n : Nat) (zc : List Value) (idx : List Nat)  : quietK (.barr n zc idx) = true := rfl
@[simp] theorem evalQ_barr (n : Nat) (zc : List Value) (idx : List Nat)  (ps : List PV) : evalQ Φ H nx (.barr n zc idx) ps = (evalK Φ H nx (.barr n zc idx) ps).map (·.1) := rfl
@[simp] theorem evalK_box (t : Nat) (x : PV) : evalK Φ H nx (.box t) [x] = (cellsP x).map fun ps => (.ptr nx 0, (nx, .cells t ps) :: H, nx + 1) := rfl
@[simp] theorem quietK_box (t : Nat) : quietK (.box t) = false := rfl
@[simp] theorem evalK_alloc (t : Nat) (zc : List Value)  : evalK Φ H nx (.alloc t zc) [] = some (.ptr nx 0, (nx, .cells t (zc.map fun x => .t (.v x))) :: H, nx + 1) := rfl
@[simp] theorem quietK_alloc (t : Nat) (zc : List Value) : quietK (.alloc t zc) = false := rfl
@[simp] theorem evalK_app (e z b : Nat) (x : PV) (i : PV) : evalK Φ H nx (.app e z b) [x, i] = appM e z b H nx x i := rfl
@[simp] theorem quietK_app (e z b : Nat) : quietK (.app e z b) = false := rfl
@[simp] theorem quietK_bin (isB : Bool) (op : BinOp) (nk : Option NK) : quietK (.bin isB op nk) = true := rfl
@[simp] theorem evalQ_bin (isB : Bool) (op : BinOp) (nk : Option NK) (ps : List PV) : evalQ Φ H nx (.bin isB op nk) ps = (evalK Φ H nx (.bin isB op nk) ps).map (·.1) := rfl
@[simp] theorem quietK_pick  : quietK .pick = true := rfl
@[simp] theorem evalQ_pick  (ps : List PV) : evalQ Φ H nx .pick ps = (evalK Φ H nx .pick ps).map (·.1) := rfl
@[simp] theorem quietK_call (f : Nat) : quietK (.call f) = true := rfl
@[simp] theorem evalK_pick (t : Bool) (a b : PV) : evalK Φ H nx .pick [.t (.v (.bool t)), a, b] = some (bif t then a else b, H, nx) := rfl
@[simp] theorem evalK_add (isB : Bool) (nk : Option NK) (k : IntKind) (a b : Int) : evalK Φ H nx (.bin isB .add nk) [.t (.v (.int k a)), .t (.v (.int k b))] = some (.t (.v (.int k (k.wrap (a + b)))), H, nx) := by simp [evalK, binM]
@[simp] theorem evalK_sub (isB : Bool) (nk : Option NK) (k : IntKind) (a b : Int) : evalK Φ H nx (.bin isB .sub nk) [.t (.v (.int k a)), .t (.v (.int k b))] = some (.t (.v (.int k (k.wrap (a - b)))), H, nx) := by simp [evalK, binM]
@[simp] theorem evalK_mul (isB : Bool) (nk : Option NK) (k : IntKind) (a b : Int) : evalK Φ H nx (.bin isB .mul nk) [.t (.v (.int k a)), .t (.v (.int k b))] = some (.t (.v (.int k (k.wrap (a * b)))), H, nx) := by simp [evalK, binM]
@[simp] theorem evalK_and (isB : Bool) (nk : Option NK) (k : IntKind) (a b : Int) : evalK Φ H nx (.bin isB .and nk) [.t (.v (.int k a)), .t (.v (.int k b))] = some (.t (.v (.int k (k.wrap (BitVec.ofInt k.bits a &&& BitVec.ofInt k.bits b).toNat))), H, nx) := by simp [evalK, binM]
@[simp] theorem evalK_or (isB : Bool) (nk : Option NK) (k : IntKind) (a b : Int) : evalK Φ H nx (.bin isB .or nk) [.t (.v (.int k a)), .t (.v (.int k b))] = some (.t (.v (.int k (k.wrap (BitVec.ofInt k.bits a ||| BitVec.ofInt k.bits b).toNat))), H, nx) := by simp [evalK, binM]
@[simp] theorem evalK_xor (isB : Bool) (nk : Option NK) (k : IntKind) (a b : Int) : evalK Φ H nx (.bin isB .xor nk) [.t (.v (.int k a)), .t (.v (.int k b))] = some (.t (.v (.int k (k.wrap (BitVec.ofInt k.bits a ^^^ BitVec.ofInt k.bits b).toNat))), H, nx) := by simp [evalK, binM]
@[simp] theorem evalK_andNot (isB : Bool) (nk : Option NK) (k : IntKind) (a b : Int) : evalK Φ H nx (.bin isB .andNot nk) [.t (.v (.int k a)), .t (.v (.int k b))] = some (.t (.v (.int k (k.wrap (BitVec.ofInt k.bits a &&& ~~~ (BitVec.ofInt k.bits b)).toNat))), H, nx) := by simp [evalK, binM]
@[simp] theorem evalK_eql (isB : Bool) (nk : Option NK) (k : IntKind) (a b : Int) : evalK Φ H nx (.bin isB .eql nk) [.t (.v (.int k a)), .t (.v (.int k b))] = some (.t (.v (.bool (a == b))), H, nx) := by simp [evalK, binM]
@[simp] theorem evalK_neq (isB : Bool) (nk : Option NK) (k : IntKind) (a b : Int) : evalK Φ H nx (.bin isB .neq nk) [.t (.v (.int k a)), .t (.v (.int k b))] = some (.t (.v (.bool (a != b))), H, nx) := by simp [evalK, binM]
@[simp] theorem evalK_lss (isB : Bool) (nk : Option NK) (k : IntKind) (a b : Int) : evalK Φ H nx (.bin isB .lss nk) [.t (.v (.int k a)), .t (.v (.int k b))] = some (.t (.v (.bool (decide (a < b)))), H, nx) := by simp [evalK, binM]
@[simp] theorem evalK_leq (isB : Bool) (nk : Option NK) (k : IntKind) (a b : Int) : evalK Φ H nx (.bin isB .leq nk) [.t (.v (.int k a)), .t (.v (.int k b))] = some (.t (.v (.bool (decide (a ≤ b)))), H, nx) := by simp [evalK, binM]
@[simp] theorem evalK_gtr (isB : Bool) (nk : Option NK) (k : IntKind) (a b : Int) : evalK Φ H nx (.bin isB .gtr nk) [.t (.v (.int k a)), .t (.v (.int k b))] = some (.t (.v (.bool (decide (b < a)))), H, nx) := by simp [evalK, binM]
@[simp] theorem evalK_geq (isB : Bool) (nk : Option NK) (k : IntKind) (a b : Int) : evalK Φ H nx (.bin isB .geq nk) [.t (.v (.int k a)), .t (.v (.int k b))] = some (.t (.v (.bool (decide (b ≤ a)))), H, nx) := by simp [evalK, binM]
@[simp] theorem evalK_quo (isB : Bool) (nk : Option NK) (k : IntKind) (a b : Int) (h : ¬ b = 0) : evalK Φ H nx (.bin isB .quo nk) [.t (.v (.int k a)), .t (.v (.int k b))] = some (.t (.v (.int k (k.wrap (a.tdiv b)))), H, nx) := by simp [evalK, binM, h]
@[simp] theorem evalK_rem (isB : Bool) (nk : Option NK) (k : IntKind) (a b : Int) (h : ¬ b = 0) : evalK Φ H nx (.bin isB .rem nk) [.t (.v (.int k a)), .t (.v (.int k b))] = some (.t (.v (.int k (a.tmod b))), H, nx) := by simp [evalK, binM, h]
@[simp] theorem evalK_shl (isB : Bool) (nk : Option NK) (k k' : IntKind) (a b : Int) (h : ¬ b < 0) : evalK Φ H nx (.bin isB .shl nk) [.t (.v (.int k a)), .t (.v (.int k' b))] = some (.t (.v (.int k (k.wrap (a * 2 ^ (min b.toNat k.bits))))), H, nx) := by simp [evalK, binM, h]
@[simp] theorem evalK_shr (isB : Bool) (nk : Option NK) (k k' : IntKind) (a b : Int) (h : ¬ b < 0) : evalK Φ H nx (.bin isB .shr nk) [.t (.v (.int k a)), .t (.v (.int k' b))] = some (.t (.v (.int k (a.fdiv (2 ^ (min b.toNat k.bits))))), H, nx) := by simp [evalK, binM, h]
@[simp] theorem evalK_seql (isB : Bool) (nk : Option NK) (a b : ByteArray) : evalK Φ H nx (.bin isB .eql nk) [.t (.v (.string a)), .t (.v (.string b))] = some (.t (.v (.bool (a.toList == b.toList))), H, nx) := rfl
@[simp] theorem evalK_sneq (isB : Bool) (nk : Option NK) (a b : ByteArray) : evalK Φ H nx (.bin isB .neq nk) [.t (.v (.string a)), .t (.v (.string b))] = some (.t (.v (.bool (!(a.toList == b.toList)))), H, nx) := rfl
@[simp] theorem evalK_beql (nk : Option NK) (a b : Bool) : evalK Φ H nx (.bin true .eql nk) [.t (.v (.bool a)), .t (.v (.bool b))] = some (.t (.v (.bool (a == b))), H, nx) := rfl
@[simp] theorem evalK_bneq (nk : Option NK) (a b : Bool) : evalK Φ H nx (.bin true .neq nk) [.t (.v (.bool a)), .t (.v (.bool b))] = some (.t (.v (.bool (!(a == b)))), H, nx) := rfl
@[simp] theorem evalK_call (f : Nat) (ps : List PV) : evalK Φ H nx (.call f) ps = (toTs H ps).bind fun q => (Φ f q.1).map fun r => (.t r, if q.2.isEmpty then H else if plainT r then H else remAll H q.2, nx) := by
  simp only [evalK]
  cases toTs H ps with
  | none => rfl
  | some q => obtain ⟨a, b⟩ := q; simp only [Option.bind_some]; cases Φ f a <;> rfl
@[simp] theorem evalQ_call (f : Nat) (ps : List PV) : evalQ Φ H nx (.call f) ps = (toTs H ps).bind fun q => (Φ f q.1).bind fun r => if q.2.isEmpty || plainT r then some (.t r) else none := by
  simp only [evalQ, quietK, if_true]
  cases toTs H ps with
  | none => rfl
  | some q => obtain ⟨a, b⟩ := q; simp only [Option.bind_some]; cases Φ f a <;> rfl
@[simp] theorem evalK_tslice (e n : Nat) (zc : List Value) (len : Nat) (idx : List Nat) (ps : List PV) : evalK Φ H nx (.tslice e n zc len idx) ps = (tsliceM e n zc len (idx.zip ps)).map fun r => (r, H, nx) := rfl
@[simp] theorem quietK_tslice (e n : Nat) (zc : List Value) (len : Nat) (idx : List Nat) : quietK (.tslice e n zc len idx) = true := rfl
@[simp] theorem evalQ_tslice (e n : Nat) (zc : List Value) (len : Nat) (idx : List Nat) (ps : List PV) : evalQ Φ H nx (.tslice e n zc len idx) ps = (evalK Φ H nx (.tslice e n zc len idx) ps).map (·.1) := rfl
@[simp] theorem evalK_hcall (f : Nat) (ps : List PV) : evalK Φ H nx (.hcall f) ps = Φ.h f ps H nx := rfl
@[simp] theorem quietK_hcall (f : Nat) : quietK (.hcall f) = false := rfl
@[simp] theorem evalK_callv (f : Nat) (ps : List PV) : evalK Φ H nx .callv (.t (.v (.func (.func f) #[] #[])) :: ps) = Φ.h f ps H nx := rfl
@[simp] theorem evalK_callf (f : Nat) (first cap ps : List PV) : evalK Φ H nx .callv (.fn (.func f) first cap :: ps) = Φ.h f (first ++ ps ++ cap) H nx := rfl
@[simp] theorem quietK_callv : quietK .callv = false := rfl
@[simp] theorem evalK_ex (e : EK) (ps : List PV) : evalK Φ H nx (.ex e) ps = (exM e ps).map fun r => (r, H, nx) := rfl
@[simp] theorem quietK_ex (e : EK) : quietK (.ex e) = true := rfl
@[simp] theorem evalQ_ex (e : EK) (ps : List PV) : evalQ Φ H nx (.ex e) ps = (evalK Φ H nx (.ex e) ps).map (·.1) := rfl
@[simp] theorem evalK_hx (h : HK) (ps : List PV) : evalK Φ H nx (.hx h) ps = hxM h H nx ps := rfl
@[simp] theorem quietK_hx (h : HK) : quietK (.hx h) = false := rfl
@[simp] theorem exM_eqs (neg : Bool) (ks : List CK) (xs ys : List T) : exM (.eqs neg ks) [.t (.ag xs), .t (.ag ys)] = (eqCells ks xs ys).map fun r => .t (.v (.bool (if neg then !r else r))) := rfl
@[simp] theorem hxM_range (s : ByteArray) : hxM .range H nx [.t (.v (.string s))] = some (.ptr nx 0, (nx, .iter s 0) :: H, nx + 1) := rfl
@[simp] theorem ifSome_bind {α β : Type} (x : Option α) (f : α → Option β) (K : β → Prop) : ifSome (x.bind f) K = ifSome x fun a => ifSome (f a) K := by cases x <;> rfl
end
@[simp] theorem plainT_v (x : Value) : plainT (.v x) = true := rfl
@[simp] theorem plainT_sl (n : Nat) (cs : List T) : plainT (.sl n cs) = false := rfl
@[simp] theorem plainT_pt (cs : List T) : plainT (.pt cs) = false := rfl
@[simp] theorem look_nil {α : Type} (k : Nat) : look ([] : List (Nat × α)) k = none := rfl
@[simp] theorem look_cons {α : Type} (k j : Nat) (x : α) (r : List (Nat × α)) : look ((k, x) :: r) j = if k = j then some x else look r j := rfl
@[simp] theorem allT_map_t (ts : List T) : allT (ts.map PV.t) = some ts := by
  induction ts with
  | nil => rfl
  | cons x r ih => simp [ih]

section
variable {Φ : Oracle} {env : List (Nat × PV)} {H : Heap} {nx n : Nat} {K : AState → Prop} {Q : Exit → AState → Prop} {d : Option Nat} {k : MK} {xs : List Opd} {r : List Mini}

@[simp] theorem set_some (j : Nat) (p : PV) (H' : Heap) (nx' : Nat) : AState.set ⟨env, H, nx, n⟩ (some j) (p, H', nx') = ⟨(j, p) :: env, H', nx', n⟩ := rfl
@[simp] theorem set_none (p : PV) (H' : Heap) (nx' : Nat) : AState.set ⟨env, H, nx, n⟩ none (p, H', nx') = ⟨env, H', nx', n⟩ := rfl

@[simp] theorem runsL_nil {s : AState} : runsL Φ [] s K = K s := rfl
@[simp] theorem runsL_cons : runsL Φ (⟨d, k, xs, none⟩ :: r) ⟨env, H, nx, n⟩ K = ifSome (evalK Φ H nx k (xs.map (·.ev env))) fun q => runsL Φ r (AState.set ⟨env, H, nx, n⟩ d q) K := rfl
@[simp] theorem runsL_yes {g : Nat} {want : Bool} (h : look env g = some (.t (.v (.bool want)))) :
    runsL Φ (⟨d, k, xs, some (g, want)⟩ :: r) ⟨env, H, nx, n⟩ K = ifSome (evalK Φ H nx k (xs.map (·.ev env))) fun q => runsL Φ r (AState.set ⟨env, H, nx, n⟩ d q) K := by
  simp only [runsL, stepsM, Mini.wants, h, beq_self_eq_true, onWants_true]
theorem runsL_no {g : Nat} {want b : Bool} (h : look env g = some (.t (.v (.bool b)))) (hb : (b == want) = false) :
    runsL Φ (⟨d, k, xs, some (g, want)⟩ :: r) ⟨env, H, nx, n⟩ K = runsL Φ r (AState.set ⟨env, H, nx, n⟩ d (.t (.v undef), H, nx)) K := by
  simp only [runsL, stepsM, Mini.wants, h, hb, onWants_false]
@[simp] theorem runsL_no_t {g : Nat} (h : look env g = some (.t (.v (.bool false)))) :
    runsL Φ (⟨d, k, xs, some (g, true)⟩ :: r) ⟨env, H, nx, n⟩ K = runsL Φ r (AState.set ⟨env, H, nx, n⟩ d (.t (.v undef), H, nx)) K := runsL_no h rfl
@[simp] theorem runsL_no_f {g : Nat} (h : look env g = some (.t (.v (.bool true)))) :
    runsL Φ (⟨d, k, xs, some (g, false)⟩ :: r) ⟨env, H, nx, n⟩ K = runsL Φ r (AState.set ⟨env, H, nx, n⟩ d (.t (.v undef), H, nx)) K := runsL_no h rfl
@[simp] theorem runsL_no_u {g : Nat} {want : Bool} (h : look env g = some (.t (.v undef))) :
    runsL Φ (⟨d, k, xs, some (g, want)⟩ :: r) ⟨env, H, nx, n⟩ K = runsL Φ r (AState.set ⟨env, H, nx, n⟩ d (.t (.v undef), H, nx)) K := by
  simp only [runsL, stepsM, Mini.wants, h, undef, onWants_false]

@[simp] theorem runsD_nil {s : AState} : runsD Φ [] s K = K s := rfl
@[simp] theorem runsD_cons (hk : quietK k = true) : runsD Φ (⟨d, k, xs, none⟩ :: r) ⟨env, H, nx, n⟩ K = ifSome (evalQ Φ H nx k (xs.map (·.ev env))) fun v => runsD Φ r (AState.set ⟨env, H, nx, n⟩ d (v, H, nx)) K := by
  simp only [runsD, stepsD, hk, if_true, Mini.wants, onWants_true]
@[simp] theorem runsD_heavy (hk : quietK k = false) : runsD Φ (⟨d, k, xs, none⟩ :: r) ⟨env, H, nx, n⟩ K = ifSome (evalK Φ H nx k (xs.map (·.ev env))) fun q => runsD Φ r (AState.set ⟨env, H, nx, n⟩ d q) K := by
  simp only [runsD, stepsD, hk, Bool.false_eq_true, if_false, stepsM, Mini.wants, onWants_true]
@[simp] theorem runsD_yes {g : Nat} {want : Bool} (hk : quietK k = true) (h : look env g = some (.t (.v (.bool want)))) :
    runsD Φ (⟨d, k, xs, some (g, want)⟩ :: r) ⟨env, H, nx, n⟩ K = ifSome (evalQ Φ H nx k (xs.map (·.ev env))) fun v => runsD Φ r (AState.set ⟨env, H, nx, n⟩ d (v, H, nx)) K := by
  simp only [runsD, stepsD, hk, if_true, Mini.wants, h, beq_self_eq_true, onWants_true]
@[simp] theorem runsD_heavy_yes {g : Nat} {want : Bool} (hk : quietK k = false) (h : look env g = some (.t (.v (.bool want)))) :
    runsD Φ (⟨d, k, xs, some (g, want)⟩ :: r) ⟨env, H, nx, n⟩ K = ifSome (evalK Φ H nx k (xs.map (·.ev env))) fun q => runsD Φ r (AState.set ⟨env, H, nx, n⟩ d q) K := by
  simp only [runsD, stepsD, hk, Bool.false_eq_true, if_false, stepsM, Mini.wants, h, beq_self_eq_true, onWants_true]
theorem runsD_no {g : Nat} {want b : Bool} (h : look env g = some (.t (.v (.bool b)))) (hb : (b == want) = false) :
    runsD Φ (⟨d, k, xs, some (g, want)⟩ :: r) ⟨env, H, nx, n⟩ K = runsD Φ r (AState.set ⟨env, H, nx, n⟩ d (.t (.v undef), H, nx)) K := by
  simp only [runsD, stepsD, stepsM, Mini.wants, h, hb, onWants_false, ite_self]
@[simp] theorem runsD_no_t {g : Nat} (h : look env g = some (.t (.v (.bool false)))) :
    runsD Φ (⟨d, k, xs, some (g, true)⟩ :: r) ⟨env, H, nx, n⟩ K = runsD Φ r (AState.set ⟨env, H, nx, n⟩ d (.t (.v undef), H, nx)) K := runsD_no h rfl
@[simp] theorem runsD_no_f {g : Nat} (h : look env g = some (.t (.v (.bool true)))) :
    runsD Φ (⟨d, k, xs, some (g, false)⟩ :: r) ⟨env, H, nx, n⟩ K = runsD Φ r (AState.set ⟨env, H, nx, n⟩ d (.t (.v undef), H, nx)) K := runsD_no h rfl
@[simp] theorem runsD_no_u {g : Nat} {want : Bool} (h : look env g = some (.t (.v undef))) :
    runsD Φ (⟨d, k, xs, some (g, want)⟩ :: r) ⟨env, H, nx, n⟩ K = runsD Φ r (AState.set ⟨env, H, nx, n⟩ d (.t (.v undef), H, nx)) K := by
  simp only [runsD, stepsD, stepsM, Mini.wants, h, undef, onWants_false, ite_self]

variable {κ j b : Nat} {pd : Pend} {gr : List GI} {kp : Bool} {ag : List Nat}
@[simp] theorem agains_nil {C : Prop} : agains Φ pd H nx [] C = C := rfl
@[simp] theorem agains_cons {i : Nat} {r : List Nat} {C : Prop} : agains Φ pd H nx (i :: r) C = ifSome (look pd i) fun x => evalQ Φ H nx x.1 x.2.1 = some x.2.2 ∧ agains Φ pd H nx r C := rfl
@[simp] theorem keepG_true {m : Mini} {v : PV} : keepG true j m ⟨env, H, nx, n⟩ v pd = (j, m.k, m.xs.map (·.ev env), v) :: pd := rfl
@[simp] theorem keepG_false {m : Mini} {s : AState} {v : PV} : keepG false j m s v pd = pd := rfl
@[simp] theorem runsG_nil {s : AState} : runsG Φ κ j b pd [] s K = K s := rfl
@[simp] theorem runsG_cons (hk : quietK k = true) : runsG Φ κ j b pd (.o ⟨d, k, xs, none⟩ kp ag :: gr) ⟨env, H, nx, n⟩ K =
    ifSome (evalQ Φ H nx k (xs.map (·.ev env))) fun v => agains Φ pd H nx ag (runsG Φ κ (j + 1) b (keepG kp j ⟨d, k, xs, none⟩ ⟨env, H, nx, n⟩ v pd) gr (AState.set ⟨env, H, nx, n⟩ d (v, H, nx)) K) := by
  simp only [runsG, valD, hk, if_true, valQ, Mini.wants, ifSome_map]
@[simp] theorem runsG_heavy (hk : quietK k = false) : runsG Φ κ j b pd (.o ⟨d, k, xs, none⟩ kp ag :: gr) ⟨env, H, nx, n⟩ K =
    ifSome (evalK Φ H nx k (xs.map (·.ev env))) fun q => agains Φ pd q.2.1 q.2.2 ag (runsG Φ κ (j + 1) b (keepG kp j ⟨d, k, xs, none⟩ ⟨env, H, nx, n⟩ q.1 pd) gr (AState.set ⟨env, H, nx, n⟩ d q) K) := by
  simp only [runsG, valD, hk, Bool.false_eq_true, if_false, Mini.wants]
@[simp] theorem runsG_first {m : Mini} : runsG Φ κ j b pd (.g 0 m :: gr) ⟨env, H, nx, n⟩ K =
    ifSome (evalK Φ H (nx + κ) m.k (m.xs.map (·.ev env))) fun q => runsG Φ κ (j + 1) nx pd gr (AState.set ⟨env, H, nx, n⟩ m.dst (q.1, q.2.1, nx + 2 * κ)) K := rfl
@[simp] theorem runsG_more {m : Mini} {i : Nat} (hi : i ≠ 0) : runsG Φ κ j b pd (.g i m :: gr) ⟨env, H, nx, n⟩ K =
    ifSome (evalK Φ H (b + κ + i) m.k (m.xs.map (·.ev env))) fun q => runsG Φ κ (j + 1) b pd gr (AState.set ⟨env, H, nx, n⟩ m.dst (q.1, q.2.1, b + 2 * κ)) K := by
  simp only [runsG, if_neg hi]
@[simp] theorem runsM_drawG {l : List GI} : runsM Φ (.drawG κ l) ⟨env, H, nx, n⟩ Q = runsG Φ κ 0 0 [] l ⟨env, H, nx, n⟩ (Q .normal) := rfl

@[simp] theorem runsM_skip {s : AState} : runsM Φ .skip s Q = Q .normal s := rfl
@[simp] theorem runsM_ops {l : List Mini} : runsM Φ (.ops l) ⟨env, H, nx, n⟩ Q = runsL Φ l ⟨env, H, nx, n⟩ (Q .normal) := rfl
@[simp] theorem runsM_draw {l : List Mini} : runsM Φ (.draw l) ⟨env, H, nx, n⟩ Q = runsD Φ l ⟨env, H, nx, n⟩ (Q .normal) := rfl
@[simp] theorem runsM_seq {a b : MCode} : runsM Φ (.seq a b) ⟨env, H, nx, n⟩ Q = runsM Φ a ⟨env, H, nx, n⟩ (onNormal (fun s1 => runsM Φ b s1 Q) Q) := rfl
@[simp] theorem runsM_true {c : Opd} {a b : MCode} (h : c.ev env = .t (.v (.bool true))) : runsM Φ (.cond c a b) ⟨env, H, nx, n⟩ Q = runsM Φ a ⟨env, H, nx, n⟩ Q := by simp only [runsM, h, onBool_true]
@[simp] theorem runsM_false {c : Opd} {a b : MCode} (h : c.ev env = .t (.v (.bool false))) : runsM Φ (.cond c a b) ⟨env, H, nx, n⟩ Q = runsM Φ b ⟨env, H, nx, n⟩ Q := by simp only [runsM, h, onBool_false]
@[simp] theorem runsM_block {i : Nat} {a : MCode} : runsM Φ (.block i a) ⟨env, H, nx, n⟩ Q = runsM Φ a ⟨env, H, nx, n⟩ (InBlock i Q) := rfl
@[simp] theorem runsM_exit {i : Nat} {s : AState} : runsM Φ (.exit i) s Q = Q (.exit i) s := rfl
@[simp] theorem runsM_scope {a : MCode} : runsM Φ (.scope a) ⟨env, H, nx, n⟩ Q = runsM Φ a ⟨env, H, nx, n⟩ (NoGoto Q) := rfl
@[simp] theorem runsM_ret {s : AState} : runsM Φ .ret s Q = Q .ret s := rfl
@[simp] theorem endM_mk {vs : List RV} {R : T → Prop} : endM vs R ⟨env, H, nx, n⟩ = ifSome (resM ⟨env, H, nx, n⟩ vs) fun ps => ifSome (toT H (oneOf ps)) fun q => R q.1 := rfl
end
end Go.Abs

namespace Go.Abs
set_option linter.unusedSimpArgs false
set_option linter.unusedVariables false
open Go

/-- What function f returns is told by g. -/
def GOK (P : Program) (G : Globs) (f : FuncId) (g : List T → Option T) : Prop := ∀ args r, g args = some r → CallT P G f args (· = r)

abbrev Tbl := List (Nat × (List T → Option T))

def orcT (tbl : Tbl) (f : FuncId) (args : List T) : Option T :=
  match look tbl f with
  | some g => g args
  | none => none

/-- What function f does to rows is told by h. -/
structure HOK (P : Program) (G : Globs) (f : FuncId) (h : List PV → Heap → Nat → Option (PV × Heap × Nat)) : Prop where
  call : ∀ ps H nx r H' nx', h ps H nx = some (r, H', nx') → CallP P G f ps H nx r H' nx'
  fresh : ∀ ps H nx r H' nx', h ps H nx = some (r, H', nx') → (∀ b x, look H b = some x → b < nx) → ∀ b x, look H' b = some x → b < nx'

abbrev HTbl := List (Nat × (List PV → Heap → Nat → Option (PV × Heap × Nat)))

def orcH (tbl : HTbl) (f : FuncId) (ps : List PV) (H : Heap) (nx : Nat) : Option (PV × Heap × Nat) :=
  match look tbl f with
  | some g => g ps H nx
  | none => none

def orh (tbl : Tbl) (htbl : HTbl) : Oracle := ⟨orcT tbl, orcH htbl⟩
abbrev orc (tbl : Tbl) : Oracle := orh tbl []

@[simp] theorem orh_t (tbl : Tbl) (htbl : HTbl) (f : FuncId) (args : List T) : (orh tbl htbl).t f args = orcT tbl f args := rfl
@[simp] theorem orh_h (tbl : Tbl) (htbl : HTbl) (f : FuncId) (ps : List PV) (H : Heap) (nx : Nat) : (orh tbl htbl).h f ps H nx = orcH htbl f ps H nx := rfl

@[simp] theorem orc_cons (k f : Nat) (g : List T → Option T) (r : Tbl) (args : List T) : orcT ((k, g) :: r) f args = if k = f then g args else orcT r f args := by
  unfold orcT
  rw [look_cons]
  by_cases h : k = f
  · rw [if_pos h, if_pos h]
  · rw [if_neg h, if_neg h]
@[simp] theorem orc_nil (f : Nat) (args : List T) : orcT [] f args = none := rfl
@[simp] theorem orcH_cons (k f : Nat) (g : List PV → Heap → Nat → Option (PV × Heap × Nat)) (r : HTbl) (ps : List PV) (H : Heap) (nx : Nat) : orcH ((k, g) :: r) f ps H nx = if k = f then g ps H nx else orcH r f ps H nx := by
  unfold orcH
  rw [look_cons]
  by_cases h : k = f
  · rw [if_pos h, if_pos h]
  · rw [if_neg h, if_neg h]
@[simp] theorem orcH_nil (f : Nat) (ps : List PV) (H : Heap) (nx : Nat) : orcH [] f ps H nx = none := rfl

def TblOK (P : Program) (G : Globs) (tbl : Tbl) : Prop := ∀ q ∈ tbl, GOK P G q.1 q.2

theorem TblOK.nil {P : Program} {G : Globs} : TblOK P G [] := fun _ h => by cases h
theorem TblOK.cons {P : Program} {G : Globs} {f : Nat} {g : List T → Option T} {r : Tbl} (h : GOK P G f g) (hr : TblOK P G r) : TblOK P G ((f, g) :: r) := fun q hq => by
  rcases List.mem_cons.1 hq with rfl | hq
  · exact h
  · exact hr q hq

def HTblOK (P : Program) (G : Globs) (tbl : HTbl) : Prop := ∀ q ∈ tbl, HOK P G q.1 q.2

theorem HTblOK.nil {P : Program} {G : Globs} : HTblOK P G [] := fun _ h => by cases h
theorem HTblOK.cons {P : Program} {G : Globs} {f : Nat} {g : List PV → Heap → Nat → Option (PV × Heap × Nat)} {r : HTbl} (h : HOK P G f g) (hr : HTblOK P G r) : HTblOK P G ((f, g) :: r) := fun q hq => by
  rcases List.mem_cons.1 hq with rfl | hq
  · exact h
  · exact hr q hq

theorem TblOK.soundH {P : Program} {G : Globs} {tbl : Tbl} {htbl : HTbl} (h : TblOK P G tbl) (hh : HTblOK P G htbl) : (orh tbl htbl).Sound P G where
  t := fun f args r hr => by
    simp only [orh, orcT] at hr
    split at hr
    · rename_i g hg
      exact h _ (mem_of_look hg) args r hr
    · cases hr
  h := fun f ps H nx r H' nx' hr => by
    simp only [orh, orcH] at hr
    split at hr
    · rename_i g hg
      exact (hh _ (mem_of_look hg)).call ps H nx r H' nx' hr
    · cases hr
  fresh := fun f ps H nx r H' nx' hr => by
    simp only [orh, orcH] at hr
    split at hr
    · rename_i g hg
      exact (hh _ (mem_of_look hg)).fresh ps H nx r H' nx' hr
    · cases hr

theorem TblOK.ctxH {P : Program} {G : Globs} {tbl : Tbl} {htbl : HTbl} (h : TblOK P G tbl) (hh : HTblOK P G htbl) (hm : P.follows .mixedOrders = true) : Ctx P G (orh tbl htbl) := ⟨hm, h.soundH hh⟩
theorem TblOK.ctx {P : Program} {G : Globs} {tbl : Tbl} (h : TblOK P G tbl) (hm : P.follows .mixedOrders = true) : Ctx P G (orc tbl) := h.ctxH HTblOK.nil hm

/-- A contract over trees, for a call that is handed rows or function values. -/
def hOfT (g : List T → Option T) (ps : List PV) (H : Heap) (nx : Nat) : Option (PV × Heap × Nat) :=
  (toTs H ps).bind fun q => (g q.1).map fun r => (.t r, if plainT r then H else remAll H q.2, nx)

theorem GOK.hok {P : Program} {G : Globs} {f : FuncId} {g : List T → Option T} (h : GOK P G f g) : HOK P G f (hOfT g) where
  call := fun ps H nx r H' nx' hr => by
    unfold hOfT at hr
    obtain ⟨⟨targs, F⟩, hT, hr⟩ := Option.bind_eq_some_iff.1 hr
    obtain ⟨r0, hg, e⟩ := map_opt hr
    injection e with e1 e2; injection e2 with e2 e3; subst e1; subst e2; subst e3
    exact (h _ _ hg).callP hT
  fresh := fun ps H nx r H' nx' hr hf b x hb => by
    unfold hOfT at hr
    obtain ⟨⟨targs, F⟩, hT, hr⟩ := Option.bind_eq_some_iff.1 hr
    obtain ⟨r0, hg, e⟩ := map_opt hr
    injection e with e1 e2; injection e2 with e2 e3; subst e1; subst e2; subst e3
    split at hb
    · exact hf b x hb
    · exact hf b x (look_remAll F H b x hb).1

section
variable {P : Program} {G : Globs} {B N : Nat} {Q : Exit → AState → Prop} {s : AState}

/-- A round that goes on to S. -/
def RoundTo (P : Program) (G : Globs) (B : Nat) (S : AState) (Q : Exit → AState → Prop) : Exit → AState → Prop
  | .normal, s => Sub P G B s S ∧ s.n = S.n
  | e, s => Q e s

@[simp] theorem roundTo_normal (S : AState) (s : AState) : RoundTo P G B S Q .normal s = (Sub P G B s S ∧ s.n = S.n) := rfl
@[simp] theorem roundTo_ret (S : AState) (s : AState) : RoundTo P G B S Q .ret s = Q .ret s := rfl
@[simp] theorem roundTo_exit (S : AState) (i : Nat) (s : AState) : RoundTo P G B S Q (.exit i) s = Q (.exit i) s := rfl

/-- A round that ends the loop. -/
def LastTo (Q : Exit → AState → Prop) : Exit → AState → Prop
  | .normal, _ => False
  | e, s => Q e s

@[simp] theorem lastTo_normal (s : AState) : LastTo Q .normal s = False := rfl
@[simp] theorem lastTo_ret (s : AState) : LastTo Q .ret s = Q .ret s := rfl
@[simp] theorem lastTo_exit (i : Nat) (s : AState) : LastTo Q (.exit i) s = Q (.exit i) s := rfl

/-- A loop of n rounds at most, whose states are S 0, S 1, .. -/
theorem mc_for {x : MCode} (S : Nat → AState) (n : Nat) (hN : ∀ j, (S j).n = N) (h0 : Sub P G B s (S 0)) (hs : s.n = N) (round : ∀ j, j < n → MC P G B N x (RoundTo P G B (S (j + 1)) Q) (S j)) (last : MC P G B N x (LastTo Q) (S n)) : MC P G B N (.loop x) Q s := by
  refine MC.sub h0 ((hN 0).trans hs.symm) ?_
  refine mc_loop (fun k s => ∃ j, j + k = n ∧ s = S j) n ⟨0, by omega, rfl⟩ (fun k s ⟨j, _, e⟩ => by rw [e]; exact hN j) ?_
  rintro k s ⟨j, hj, rfl⟩
  by_cases hlt : j < n
  · refine (round j hlt).mono fun e s1 q => ?_
    cases e
    case normal => exact ⟨k - 1, by omega, S (j + 1), q.1, j + 1, by omega, rfl⟩
    all_goals exact q
  · have : j = n := by omega
    subst this
    refine last.mono fun e s1 q => ?_
    cases e
    case normal => exact q.elim
    all_goals exact q

/-- A round that goes on to some state of a family. -/
def Next (P : Program) (G : Globs) (B : Nat) {α : Type} (S : α → AState) (Ok : α → Prop) (s : AState) : Prop := ∃ a, Ok a ∧ Sub P G B s (S a)

theorem Next.mk {α : Type} {S : α → AState} {Ok : α → Prop} {s : AState} (a : α) (h : Ok a) (hs : Sub P G B s (S a)) : Next P G B S Ok s := ⟨a, h, hs⟩

def WhileTo (P : Program) (G : Globs) (B : Nat) {α : Type} (S : α → AState) (Ok : α → Prop) (Q : Exit → AState → Prop) : Exit → AState → Prop
  | .normal, s => Next P G B S Ok s
  | e, s => Q e s

@[simp] theorem whileTo_normal {α : Type} (S : α → AState) (Ok : α → Prop) (s : AState) : WhileTo P G B S Ok Q .normal s = Next P G B S Ok s := rfl
@[simp] theorem whileTo_ret {α : Type} (S : α → AState) (Ok : α → Prop) (s : AState) : WhileTo P G B S Ok Q .ret s = Q .ret s := rfl
@[simp] theorem whileTo_exit {α : Type} (S : α → AState) (Ok : α → Prop) (i : Nat) (s : AState) : WhileTo P G B S Ok Q (.exit i) s = Q (.exit i) s := rfl

/-- A loop whose states are told by any data, with a number that falls. -/
theorem mc_while {x : MCode} {α : Type} (S : α → AState) (μ : α → Nat) (Ok : α → Prop) (a0 : α) (hN : ∀ a, (S a).n = N) (hok : Ok a0) (h0 : Sub P G B s (S a0)) (hs : s.n = N)
    (round : ∀ a, Ok a → MC P G B N x (WhileTo P G B S (fun a' => Ok a' ∧ μ a' < μ a) Q) (S a)) : MC P G B N (.loop x) Q s := by
  refine MC.sub h0 ((hN a0).trans hs.symm) ?_
  refine mc_loop (fun k s => ∃ a, Ok a ∧ μ a = k ∧ s = S a) (μ a0) ⟨a0, hok, rfl, rfl⟩ (fun k s ⟨a, _, _, e⟩ => by rw [e]; exact hN a) ?_
  rintro k s ⟨a, ha, rfl, rfl⟩
  refine (round a ha).mono fun e s1 q => ?_
  cases e
  case normal => obtain ⟨a', h1, h2⟩ := q; exact ⟨μ a', h1.2, S a', h2, a', h1.1, rfl, rfl⟩
  all_goals exact q

/-- Code in two parts, with a family of states between. -/
theorem mc_cut {x y : MCode} {α : Type} (S : α → AState) (Ok : α → Prop) (hN : ∀ a, (S a).n = N) (h1 : MC P G B N x (WhileTo P G B S Ok Q) s) (h2 : ∀ a, Ok a → MC P G B N y Q (S a)) : MC P G B N (.seq x y) Q s := by
  intro c hc hn
  obtain ⟨a, b, rfl, ha, hb⟩ := comp_cases hc
  refine acode_seq (ACode.post (h1 a ha hn) fun e s1 q => ?_)
  cases e
  case normal =>
    obtain ⟨d, hd, hs⟩ := q
    exact ⟨S d, hs, h2 d hd b hb (hN d)⟩
  all_goals exact ⟨s1, Sub.refl s1, q⟩

end

theorem wrap_i64 {z : Int} (h1 : -9223372036854775808 ≤ z) (h2 : z ≤ 9223372036854775807) : IntKind.i64.wrap z = z := by
  unfold IntKind.wrap IntKind.bits IntKind.signed
  simp only [Bool.true_and, Nat.reduceSub]
  have e1 : (2 : Int) ^ 64 = 18446744073709551616 := by decide
  have e2 : (2 : Int) ^ 63 = 9223372036854775808 := by decide
  simp only [e1, e2, ge_iff_le, decide_eq_true_eq]
  split <;> omega

theorem wrap_nat {z : Int} {n : Nat} (e : z = n) (h : n ≤ 9223372036854775807) : IntKind.i64.wrap z = (n : Int) := by
  rw [wrap_i64 (by omega) (by omega), e]

theorem wrap_u64 {z : Int} (h1 : 0 ≤ z) (h2 : z < 18446744073709551616) : IntKind.u64.wrap z = z := by
  unfold IntKind.wrap IntKind.bits IntKind.signed
  simp only [Bool.false_and, Bool.false_eq_true, if_false]
  have e1 : (2 : Int) ^ 64 = 18446744073709551616 := by decide
  rw [e1]
  omega

@[simp] theorem kbits_u64 : IntKind.u64.bits = 64 := rfl
@[simp] theorem kbits_i64 : IntKind.i64.bits = 64 := rfl

theorem ofInt_toNat (x : BitVec 64) : BitVec.ofInt 64 (x.toNat : Int) = x := by
  apply BitVec.eq_of_toNat_eq
  rw [BitVec.toNat_ofInt]
  have := x.isLt
  omega

theorem wrap_toNat (x : BitVec 64) : IntKind.u64.wrap (x.toNat : Int) = (x.toNat : Int) := wrap_u64 (by omega) (by have := x.isLt; omega)

end Go.Abs
