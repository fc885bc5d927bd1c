/-
 Auxiliary facts. No statement of the program stands here.
-/
import Derived.Test.YtjkkgbdoeaihmaaGreatDoorUBQ07
namespace Go.Abs
set_option linter.unusedSimpArgs false
set_option linter.unusedVariables false
open Go
structure Mini where
 dst : Option Nat
 k : MK
 xs : List Opd
 g : Option (Nat × Bool)
def Mini.wants (env : List (Nat × PV)) (m : Mini) : Option Bool :=
 match m.g with
 | none => some true
 | some (d, want) => match look env d with
  | some (.t (.v (.bool b))) => some (b == want)
  | some (.t (.v (.tuple _))) => some false
  | _ => none
def compMini (P : Program) (G : Globs) (N : Nat) (d : Bool) (ops : Array Oper) (o : Oper) : Option Mini :=
 match opK P G d o.op with
 | (k, xs) => if o.dst.all (· < N) then
   (match o.guard with
   | none => some ⟨o.dst, k, xs, none⟩
   | some (j, want) => match (ops[j]?).bind (·.dst) with
    | some d => some ⟨o.dst, k, xs, some (d, want)⟩
    | none => none)
  else none
theorem compMini_spec {P : Program} {G : Globs} {N : Nat} {d : Bool} {ops : Array Oper} {o : Oper} {m : Mini} (h : compMini P G N d ops o = some m) :
  opK P G d o.op = (m.k, m.xs) ∧ m.dst = o.dst ∧ (∀ k, o.dst = some k → k < N) ∧ ∀ s : AState, s.wants ops o = m.wants s.env := by
 unfold compMini at h
 split at h
 rename_i k xs hc
 split at h
 ·rename_i hd
  have hd' : ∀ k, o.dst = some k → k < N := by
   intro k hk
   rw [hk] at hd
   simpa using hd
  split at h
  ·rename_i hg
   injection h with h; subst h
   exact ⟨hc, rfl, hd', fun s => by simp [AState.wants, Mini.wants, hg]⟩
  ·rename_i j want hg
   split at h
   ·rename_i d hdd
    injection h with h; subst h
    exact ⟨hc, rfl, hd', fun s => by simp only [AState.wants, Mini.wants, hg, hdd]; rfl⟩
   ·cases h
 ·cases h
def stepM (Φ : Oracle) (s : AState) (m : Mini) : Option AState :=
 match m.wants s.env with
 | some true => match evalK Φ s.H s.nx m.k (m.xs.map (·.ev s.env)) with
  | some (r, H', nx') => some (({ s with H := H', nx := nx' } : AState).put m.dst r)
  | none => none
 | some false => some (s.put m.dst (.t (.v undef)))
 | none => none
def runL (Φ : Oracle) : List Mini → AState → Option AState
 | [], s => some s
 | m :: r, s => match stepM Φ s m with
  | some s' => runL Φ r s'
  | none => none
section
variable {P : Program} {G : Globs} {B N : Nat} {Φ : Oracle} {d : Bool} {ops : Array Oper}
def Alike (P : Program) (G : Globs) (N : Nat) (d : Bool) (ops : Array Oper) : List Oper → List Mini → Prop
 | [], l => l = []
 | o :: r, l => ∃ m l', l = m :: l' ∧ compMini P G N d ops o = some m ∧ Alike P G N d ops r l'
theorem alike_of_mapM : ∀ {os : List Oper} {l : List Mini}, os.mapM (compMini P G N d ops) = some l → Alike P G N d ops os l
 | [], l, h => by simp at h; simp only [Alike]; exact h
 | o :: r, l, h => by
  simp only [List.mapM_cons, Option.bind_eq_bind, Option.pure_def] at h
  cases ho : compMini P G N d ops o with
  | none => rw [ho] at h; cases h
  | some m =>
   rw [ho] at h
   cases hr : r.mapM (compMini P G N d ops) with
   | none => rw [hr] at h; cases h
   | some l' =>
    rw [hr] at h
    simp only [Option.bind_some, Option.some.injEq] at h
    subst h
    simp only [Alike]
    exact ⟨m, l', rfl, ho, alike_of_mapM hr⟩
theorem Alike.at_ : ∀ {os : List Oper} {l : List Mini}, Alike P G N d ops os l → ∀ (i : Nat), (∀ o, os[i]? = some o → ∃ m, l[i]? = some m ∧ compMini P G N d ops o = some m) ∧ os.length = l.length
 | [], l, h, i => by simp only [Alike] at h; subst h; simp
 | o :: r, l, h, i => by
  simp only [Alike] at h
  obtain ⟨m, l', rfl, hm, hr⟩ := h
  refine ⟨fun o' ho' => ?_, by simp [(Alike.at_ hr 0).2]⟩
  cases i with
  | zero => simp only [List.getElem?_cons_zero, Option.some.injEq] at ho'; subst ho'; exact ⟨m, by simp, hm⟩
  | succ i => simpa using (Alike.at_ hr i).1 o' (by simpa using ho')
theorem runL_sound (hΦ : Φ.Sound P G) {Q : AState → Prop} : ∀ (os : List Oper) {l : List Mini} {s s' : AState}, Alike P G N d ops os l → s.n = N → runL Φ l s = some s' → Q s' → AOps P G B ops os Q s
 | [], l, s, s', ha, hn, h, hq => by
  simp only [Alike] at ha
  subst ha
  simp only [runL, Option.some.injEq] at h
  subst h
  exact aops_nil hq
 | o :: rest, l, s, s', ha, hn, h, hq => by
  simp only [Alike] at ha
  obtain ⟨m, l', rfl, hm, hr⟩ := ha
  obtain ⟨hc, hdst, hd, hw⟩ := compMini_spec hm
  simp only [runL] at h
  split at h
  ·rename_i s1 h1
   unfold stepM at h1
   rw [← hw s] at h1
   have hd' : ∀ k, o.dst = some k → k < s.n := fun k hk => by rw [hn]; exact hd k hk
   rw [hdst] at h1
   split at h1
   ·rename_i hww
    split at h1
    ·rename_i r H' nx' hv
     injection h1 with h1
     subst h1
     exact aops_cons hww hd' (opK_aop hΦ hc hv) (runL_sound hΦ rest hr (by rw [put_n]; exact hn) h hq)
    ·cases h1
   ·rename_i hww
    injection h1 with h1
    subst h1
    exact aops_skip hww hd' (runL_sound hΦ rest hr (by rw [put_n]; exact hn) h hq)
   ·cases h1
  ·cases h
def quietK : MK → Bool
 | .store _ | .make _ _ _ _ | .bslice _ _ _ _ _ | .box _ | .alloc _ _ | .app _ _ _ | .hcall _ | .callv | .hx _ => false
 | _ => true
def evalQ (Φ : Oracle) (H : Heap) (nx : Nat) (k : MK) (ps : List PV) : Option PV :=
 if quietK k then
  (match k with
  | .call f => match toTs H ps with
   | some (targs, F) => match Φ f targs with
    | some r => if F.isEmpty || plainT r then some (.t r) else none
    | none => none
   | none => none
  | k => (evalK Φ H nx k ps).map (·.1))
 else none
theorem evalQ_evalK {H : Heap} {nx : Nat} {k : MK} {ps : List PV} {r : PV} (h : evalQ Φ H nx k ps = some r) : evalK Φ H nx k ps = some (r, H, nx) := by
 unfold evalQ at h
 split at h
 ·rename_i hk
  split at h
  ·rename_i f
   split at h
   ·rename_i targs F hT
    split at h
    ·rename_i q hq
     split at h
     ·rename_i hp
      injection h with h; subst h
      simp only [evalK, hT, hq]
      cases hF : F.isEmpty with
      | true => simp
      | false =>
       rw [hF] at hp
       simp only [Bool.false_or] at hp
       simp [hp]
     ·cases h
    ·cases h
   ·cases h
  ·rename_i hnc
   obtain ⟨q, hq, rfl⟩ := map_opt h
   rw [hq]
   congr 1
   unfold evalK at hq
   split at hq
   all_goals (first
    | (simp [quietK] at hk; done)
    | (exact absurd rfl (hnc _))
    | (cases hq; done)
    | (injection hq with hq; rw [← hq]; done)
    | (obtain ⟨a, _, rfl⟩ := map_opt hq; rfl)
    | skip)
   ·split at hq
    ·injection hq with hq; rw [← hq]
    ·cases hq
   ·split at hq
    ·split at hq
     ·injection hq with hq; rw [← hq]
     ·obtain ⟨a, _, rfl⟩ := map_opt hq; rfl
    ·obtain ⟨a, _, rfl⟩ := map_opt hq; rfl
   ·split at hq
    ·obtain ⟨a, _, rfl⟩ := map_opt hq; rfl
    ·cases hq
 ·cases h
def Mini.eyes (m : Mini) : List Nat :=
 (m.xs.filterMap fun | .tmp t => some t | _ => none) ++ (match m.g with | some (d, _) => [d] | none => [])
def AState.only (s : AState) (ts : List Nat) : AState := { s with env := ts.filterMap fun t => (look s.env t).map fun p => (t, p) }
theorem look_only (s : AState) : ∀ (ts : List Nat) (t : Nat), look (s.only ts).env t = if t ∈ ts then look s.env t else none
 | [], t => by simp [AState.only, look]
 | u :: ts, t => by
  have ih := look_only s ts t
  simp only [AState.only] at ih ⊢
  simp only [List.filterMap_cons]
  cases hu : look s.env u with
  | none =>
   simp only [Option.map_none, ih]
   by_cases e : t = u
   ·subst e; simp [hu]
   ·simp [e]
  | some p =>
   simp only [Option.map_some, look]
   by_cases e : u = t
   ·subst e; simp [hu]
   ·rw [if_neg e, ih]
    simp [Ne.symm e]
theorem eyes_ev (s : AState) (m : Mini) (ts : List Nat) (h : ∀ t ∈ m.eyes, t ∈ ts) : m.xs.map (·.ev (s.only ts).env) = m.xs.map (·.ev s.env) := by
 refine List.map_congr_left fun x hx => ?_
 cases x with
 | tmp t =>
  have : t ∈ m.eyes := by
   unfold Mini.eyes
   exact List.mem_append_left _ (List.mem_filterMap.2 ⟨.tmp t, hx, rfl⟩)
  simp only [Opd.ev, look_only, if_pos (h t this)]
 | k p => rfl
theorem eyes_wants (s : AState) (m : Mini) (ts : List Nat) (h : ∀ t ∈ m.eyes, t ∈ ts) : m.wants (s.only ts).env = m.wants s.env := by
 unfold Mini.wants
 cases hg : m.g with
 | none => rfl
 | some q =>
  obtain ⟨d, want⟩ := q
  have : d ∈ m.eyes := by unfold Mini.eyes; rw [hg]; simp
  simp only [look_only, if_pos (h d this)]
def valQ (Φ : Oracle) (s : AState) (m : Mini) : Option PV :=
 match m.wants s.env with
 | some true => evalQ Φ s.H s.nx m.k (m.xs.map (·.ev s.env))
 | some false => some (.t (.v undef))
 | none => none
def indepK : MK → Bool
 | .load _ _ | .call _ => false
 | k => quietK k
def allocK : MK → Bool
 | .make _ _ _ _ | .bslice _ _ _ _ _ | .box _ | .alloc _ _ => true
 | _ => false
def stepD (Φ : Oracle) (s : AState) (m : Mini) : Option AState :=
 if quietK m.k then
  (match valQ Φ s m with
  | some v => some (s.put m.dst v)
  | none => none)
 else stepM Φ s m
def runD (Φ : Oracle) : List Mini → AState → Option AState
 | [], s => some s
 | m :: r, s => match stepD Φ s m with
  | some s' => runD Φ r s'
  | none => none
def groupK : MK → Bool
 | .make _ _ _ _ | .alloc _ _ => true
 | _ => false
def okPairG (A : List Nat) (pa k : Nat) (R : List (Nat × Nat)) (p p' : Nat) (x y : Nat × Mini) : Bool :=
 (quietK x.2.k && (quietK y.2.k || indepK x.2.k || allocK y.2.k || R.contains (p, p')) || (A.getD y.1 0).testBit x.1 || decide (pa ≤ p) && decide (p' < pa + k)) &&
 ((match x.2.dst with
  | some d => !(y.2.eyes.contains d)
  | none => true) || (A.getD y.1 0).testBit x.1 && !(decide (pa ≤ p) && decide (p' < pa + k))) &&
 ((match y.2.dst with
  | some d => !(x.2.eyes.contains d)
  | none => true) || (A.getD y.1 0).testBit x.1) &&
 (match x.2.dst with
  | some d => y.2.dst != some d
  | none => true)
def allPairsG (A : List Nat) (pa k : Nat) (R : List (Nat × Nat)) : Nat → List (Nat × Mini) → Bool
 | _, [] => true
 | p, x :: r => (r.zipIdx (p + 1)).all (fun y => okPairG A pa k R p y.2 x y.1) && allPairsG A pa k R (p + 1) r
def ordered (l : List Mini) (π : List Nat) : List (Nat × Mini) := π.filterMap fun i => (l[i]?).map fun m => (i, m)
def drawM (ops : Array Oper) (l : List Mini) (π : List Nat) (pa k : Nat) (R : List (Nat × Nat)) : Bool :=
 (ops.toList.zipIdx.all fun p => p.1.after.toList.all fun e => decide (e.on < p.2) || !Region.binds .any e) &&
 ((ordered l π).length == l.length) && ((List.range l.length).all fun i => π.contains i) && decide (π.Nodup) &&
 allPairsG (ancs ops.toList []) pa k R 0 (ordered l π) && decide (pa + k ≤ l.length) &&
 (((ordered l π).drop pa).take k).all fun x => groupK x.2.k && x.2.g.isNone
inductive GI where
 | o (m : Mini) (kp : Bool) (ag : List Nat)
 | g (j : Nat) (m : Mini)
def GI.mini : GI → Mini
 | .o m _ _ => m
 | .g _ m => m
abbrev Pend := List (Nat × MK × List PV × PV)
def agnP (Φ : Oracle) (pd : Pend) (H : Heap) (nx : Nat) (ks : List Nat) : Prop := ∀ i ∈ ks, ∃ x, look pd i = some x ∧ evalQ Φ H nx x.1 x.2.1 = some x.2.2
def valD (Φ : Oracle) (s : AState) (m : Mini) : Option (PV × Heap × Nat) :=
 if quietK m.k then (valQ Φ s m).map fun v => (v, s.H, s.nx)
 else match m.wants s.env with
  | some true => evalK Φ s.H s.nx m.k (m.xs.map (·.ev s.env))
  | some false => some (.t (.v undef), s.H, s.nx)
  | none => none
def keepG (kp : Bool) (n : Nat) (m : Mini) (s : AState) (v : PV) (pd : Pend) : Pend := if kp then (n, m.k, m.xs.map (·.ev s.env), v) :: pd else pd
open Classical in
noncomputable def runG (Φ : Oracle) (k : Nat) : Nat → Nat → Pend → List GI → AState → Option AState
 | _, _, _, [], s => some s
 | n, b, pd, .o m kp ag :: r, s => match valD Φ s m with
  | some (v, H', nx') => if agnP Φ pd H' nx' ag then runG Φ k (n + 1) b (keepG kp n m s v pd) r (({ s with H := H', nx := nx' } : AState).put m.dst v) else none
  | none => none
 | n, b, pd, .g j m :: r, s => match evalK Φ s.H ((if j = 0 then s.nx else b) + k + j) m.k (m.xs.map (·.ev s.env)) with
  | some (v, H', _) => runG Φ k (n + 1) (if j = 0 then s.nx else b) pd r (({ s with H := H', nx := (if j = 0 then s.nx else b) + 2 * k } : AState).put m.dst v)
  | none => none
def shapeG (pa k : Nat) (R : List (Nat × Nat)) (l : List GI) : Bool :=
 (l.zipIdx.all fun x => match x.1 with
  | .o _ _ _ => decide (x.2 < pa) || decide (pa + k ≤ x.2)
  | .g j _ => decide (pa ≤ x.2) && decide (x.2 < pa + k) && (x.2 == pa + j)) &&
 R.all fun r => match l[r.2]? with
  | some (.o _ _ ag) => ag.contains r.1
  | _ => false
def groupOf (q : List (Nat × Mini)) : Nat × Nat :=
 let free := fun x : Nat × Mini => groupK x.2.k && x.2.g.isNone
 let pa := q.findIdx free
 (if pa < q.length then pa else 0, ((q.drop pa).takeWhile free).length)
def againOf (A : List Nat) (q : List (Nat × Mini)) : List (Nat × Nat) :=
 q.zipIdx.flatMap fun y => if quietK y.1.2.k || allocK y.1.2.k then [] else
  (q.zipIdx.filter fun x => decide (x.2 < y.2) && quietK x.1.2.k && !indepK x.1.2.k && !(A.getD y.1.1 0).testBit x.1.1).map fun x => (x.2, y.2)
def itemsOf (pa k : Nat) (R : List (Nat × Nat)) (q : List (Nat × Mini)) : List GI :=
 q.zipIdx.map fun x => if pa ≤ x.2 ∧ x.2 < pa + k then .g (x.2 - pa) x.1.2 else .o x.1.2 (R.any fun r => r.1 == x.2) ((R.filter fun r => r.2 == x.2).map Prod.fst)
end
end Go.Abs
