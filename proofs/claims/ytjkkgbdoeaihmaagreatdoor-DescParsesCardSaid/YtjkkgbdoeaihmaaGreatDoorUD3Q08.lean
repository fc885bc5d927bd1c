/-
 Auxiliary facts. No statement of the program stands here.
-/
import Derived.Test.YtjkkgbdoeaihmaaGreatDoorUD3Q07
namespace Go.Abs
set_option linter.unusedSimpArgs false
set_option linter.unusedVariables false
open Go
structure Mini where
 dst : Option Nat
 k : MK
 xs : List Opd
 g : Option (Nat × Bool)
def Mini.wants (env : List (Nat × PV)) (m : Mini) : Option Bool :=
 match m.g with
 | none => some true
 | some (d, want) => match look env d with
  | some (.t (.v (.bool b))) => some (b == want)
  | some (.t (.v (.tuple _))) => some false
  | _ => none
def A3z (P : Program) (G : A0t) (N : Nat) (d : Bool) (ops : Array Oper) (o : Oper) : Option Mini :=
 match opK P G d o.op with
 | (k, xs) => if o.dst.all (· < N) then
   (match o.guard with
   | none => some ⟨o.dst, k, xs, none⟩
   | some (j, want) => match (ops[j]?).bind (·.dst) with
    | some d => some ⟨o.dst, k, xs, some (d, want)⟩
    | none => none)
  else none
theorem A6l {P : Program} {G : A0t} {N : Nat} {d : Bool} {ops : Array Oper} {o : Oper} {m : Mini} (h : A3z P G N d ops o = some m) :
  opK P G d o.op = (m.k, m.xs) /\ m.dst = o.dst /\ (∀ k, o.dst = some k -> k < N) /\ ∀ s : A0b, s.wants ops o = m.wants s.env := by
 unfold A3z at h
 split at h
 rename_i k xs hc
 split at h
 ·rename_i hd
  have hd' : ∀ k, o.dst = some k -> k < N := by
   intro k hk
   rw [hk] at hd
   simpa using hd
  split at h
  ·rename_i hg
   injection h with h; subst h
   exact ⟨hc, rfl, hd', fun s => by simp [A0b.wants, Mini.wants, hg]⟩
  ·rename_i j want hg
   split at h
   ·rename_i d hdd
    injection h with h; subst h
    exact ⟨hc, rfl, hd', fun s => by simp only [A0b.wants, Mini.wants, hg, hdd]; rfl⟩
   ·cases h
 ·cases h
def C3d (Φ : A0u) (s : A0b) (m : Mini) : Option A0b :=
 match m.wants s.env with
 | some true => match A0d Φ s.H s.nx m.k (m.xs.map (·.ev s.env)) with
  | some (r, H', nx') => some (({ s with H := H', nx := nx' } : A0b).put m.dst r)
  | none => none
 | some false => some (s.put m.dst (.t (.v undef)))
 | none => none
def runL (Φ : A0u) : List Mini -> A0b -> Option A0b
 | [], s => some s
 | m :: r, s => match C3d Φ s m with
  | some s' => runL Φ r s'
  | none => none
section
variable {P : Program} {G : A0t} {B N : Nat} {Φ : A0u} {d : Bool} {ops : Array Oper}
def B0k (P : Program) (G : A0t) (N : Nat) (d : Bool) (ops : Array Oper) : List Oper -> List Mini -> Prop
 | [], l => l = []
 | o :: r, l => ∃ m l', l = m :: l' /\ A3z P G N d ops o = some m /\ B0k P G N d ops r l'
theorem A4w : ∀ {os : List Oper} {l : List Mini}, os.mapM (A3z P G N d ops) = some l -> B0k P G N d ops os l
 | [], l, h => by simp at h; simp only [B0k]; exact h
 | o :: r, l, h => by
  simp only [List.mapM_cons, Option.bind_eq_bind, Option.pure_def] at h
  cases ho : A3z P G N d ops o with
  | none => rw [ho] at h; cases h
  | some m =>
   rw [ho] at h
   cases hr : r.mapM (A3z P G N d ops) with
   | none => rw [hr] at h; cases h
   | some l' =>
    rw [hr] at h
    simp only [Option.bind_some, Option.some.injEq] at h
    subst h
    simp only [B0k]
    exact ⟨m, l', rfl, ho, A4w hr⟩
theorem B0k.at_ : ∀ {os : List Oper} {l : List Mini}, B0k P G N d ops os l -> ∀ (i : Nat), (∀ o, os[i]? = some o -> ∃ m, l[i]? = some m /\ A3z P G N d ops o = some m) /\ os.length = l.length
 | [], l, h, i => by simp only [B0k] at h; subst h; simp
 | o :: r, l, h, i => by
  simp only [B0k] at h
  obtain ⟨m, l', rfl, hm, hr⟩ := h
  refine ⟨fun o' ho' => ?_, by simp [(B0k.at_ hr 0).2]⟩
  cases i with
  | zero => simp only [List.getElem?_cons_zero, Option.some.injEq] at ho'; subst ho'; exact ⟨m, by simp, hm⟩
  | succ i => simpa using (B0k.at_ hr i).1 o' (by simpa using ho')
theorem B3m (hΦ : Φ.Sound P G) {Q : A0b -> Prop} : ∀ (os : List Oper) {l : List Mini} {s s' : A0b}, B0k P G N d ops os l -> s.n = N -> runL Φ l s = some s' -> Q s' -> AOps P G B ops os Q s
 | [], l, s, s', ha, hn, h, hq => by
  simp only [B0k] at ha
  subst ha
  simp only [runL, Option.some.injEq] at h
  subst h
  exact D8s hq
 | o :: rest, l, s, s', ha, hn, h, hq => by
  simp only [B0k] at ha
  obtain ⟨m, l', rfl, hm, hr⟩ := ha
  obtain ⟨hc, hdst, hd, hw⟩ := A6l hm
  simp only [runL] at h
  split at h
  ·rename_i s1 h1
   unfold C3d at h1
   rw [<- hw s] at h1
   have hd' : ∀ k, o.dst = some k -> k < s.n := fun k hk => by rw [hn]; exact hd k hk
   rw [hdst] at h1
   split at h1
   ·rename_i hww
    split at h1
    ·rename_i r H' nx' hv
     injection h1 with h1
     subst h1
     exact D3j hww hd' (B0u hΦ hc hv) (B3m hΦ rest hr (by rw [B3h]; exact hn) h hq)
    ·cases h1
   ·rename_i hww
    injection h1 with h1
    subst h1
    exact D3k hww hd' (B3m hΦ rest hr (by rw [B3h]; exact hn) h hq)
   ·cases h1
  ·cases h
def A0h : MK -> Bool
 | .store _ | .make _ _ _ _ | .bslice _ _ _ _ _ | .box _ | .alloc _ _ | .app _ _ _ | .hcall _ | .callv | .hx _ => false
 | _ => true
def A1z (Φ : A0u) (H : Heap) (nx : Nat) (k : MK) (ps : List PV) : Option PV :=
 if A0h k then
  (match k with
  | .call f => match toTs H ps with
   | some (targs, F) => match Φ f targs with
    | some r => if F.isEmpty || A3a r then some (.t r) else none
    | none => none
   | none => none
  | k => (A0d Φ H nx k ps).map (·.1))
 else none
theorem B6h {H : Heap} {nx : Nat} {k : MK} {ps : List PV} {r : PV} (h : A1z Φ H nx k ps = some r) : A0d Φ H nx k ps = some (r, H, nx) := by
 unfold A1z at h
 split at h
 ·rename_i hk
  split at h
  ·rename_i f
   split at h
   ·rename_i targs F hT
    split at h
    ·rename_i q hq
     split at h
     ·rename_i hp
      injection h with h; subst h
      simp only [A0d, hT, hq]
      cases hF : F.isEmpty with
      | true => simp
      | false =>
       rw [hF] at hp
       simp only [Bool.false_or] at hp
       simp [hp]
     ·cases h
    ·cases h
   ·cases h
  ·rename_i hnc
   obtain ⟨q, hq, rfl⟩ := A0i h
   rw [hq]
   congr 1
   unfold A0d at hq
   split at hq
   all_goals (first
    | (simp [A0h] at hk; done)
    | (exact absurd rfl (hnc _))
    | (cases hq; done)
    | (injection hq with hq; rw [<- hq]; done)
    | (obtain ⟨a, _, rfl⟩ := A0i hq; rfl)
    | skip)
   ·split at hq
    ·injection hq with hq; rw [<- hq]
    ·cases hq
   ·split at hq
    ·split at hq
     ·injection hq with hq; rw [<- hq]
     ·obtain ⟨a, _, rfl⟩ := A0i hq; rfl
    ·obtain ⟨a, _, rfl⟩ := A0i hq; rfl
   ·split at hq
    ·obtain ⟨a, _, rfl⟩ := A0i hq; rfl
    ·cases hq
 ·cases h
def Mini.eyes (m : Mini) : List Nat :=
 (m.xs.filterMap fun | .tmp t => some t | _ => none) ++ (match m.g with | some (d, _) => [d] | none => [])
def A0b.only (s : A0b) (ts : List Nat) : A0b := { s with env := ts.filterMap fun t => (look s.env t).map fun p => (t, p) }
theorem A9j (s : A0b) : ∀ (ts : List Nat) (t : Nat), look (s.only ts).env t = if t ∈ ts then look s.env t else none
 | [], t => by simp [A0b.only, look]
 | u :: ts, t => by
  have ih := A9j s ts t
  simp only [A0b.only] at ih ⊢
  simp only [List.filterMap_cons]
  cases hu : look s.env u with
  | none =>
   simp only [Option.map_none, ih]
   by_cases e : t = u
   ·subst e; simp [hu]
   ·simp [e]
  | some p =>
   simp only [Option.map_some, look]
   by_cases e : u = t
   ·subst e; simp [hu]
   ·rw [if_neg e, ih]
    simp [Ne.symm e]
theorem D4h (s : A0b) (m : Mini) (ts : List Nat) (h : ∀ t ∈ m.eyes, t ∈ ts) : m.xs.map (·.ev (s.only ts).env) = m.xs.map (·.ev s.env) := by
 refine List.map_congr_left fun x hx => ?_
 cases x with
 | tmp t =>
  have : t ∈ m.eyes := by
   unfold Mini.eyes
   exact List.mem_append_left _ (List.mem_filterMap.2 ⟨.tmp t, hx, rfl⟩)
  simp only [Opd.ev, A9j, if_pos (h t this)]
 | k p => rfl
theorem B9c (s : A0b) (m : Mini) (ts : List Nat) (h : ∀ t ∈ m.eyes, t ∈ ts) : m.wants (s.only ts).env = m.wants s.env := by
 unfold Mini.wants
 cases hg : m.g with
 | none => rfl
 | some q =>
  obtain ⟨d, want⟩ := q
  have : d ∈ m.eyes := by unfold Mini.eyes; rw [hg]; simp
  simp only [A9j, if_pos (h d this)]
def valQ (Φ : A0u) (s : A0b) (m : Mini) : Option PV :=
 match m.wants s.env with
 | some true => A1z Φ s.H s.nx m.k (m.xs.map (·.ev s.env))
 | some false => some (.t (.v undef))
 | none => none
def B1u : MK -> Bool
 | .load _ _ | .call _ => false
 | k => A0h k
def A9k : MK -> Bool
 | .make _ _ _ _ | .bslice _ _ _ _ _ | .box _ | .alloc _ _ => true
 | _ => false
def D4i (Φ : A0u) (s : A0b) (m : Mini) : Option A0b :=
 if A0h m.k then
  (match valQ Φ s m with
  | some v => some (s.put m.dst v)
  | none => none)
 else C3d Φ s m
def runD (Φ : A0u) : List Mini -> A0b -> Option A0b
 | [], s => some s
 | m :: r, s => match D4i Φ s m with
  | some s' => runD Φ r s'
  | none => none
def B9d : MK -> Bool
 | .make _ _ _ _ | .alloc _ _ => true
 | _ => false
def A4l (A : List Nat) (pa k : Nat) (R : List (Nat × Nat)) (p p' : Nat) (x y : Nat × Mini) : Bool :=
 (A0h x.2.k && (A0h y.2.k || B1u x.2.k || A9k y.2.k || R.contains (p, p')) || (A.getD y.1 0).testBit x.1 || decide (pa <= p) && decide (p' < pa + k)) &&
 ((match x.2.dst with
  | some d => !(y.2.eyes.contains d)
  | none => true) || (A.getD y.1 0).testBit x.1 && !(decide (pa <= p) && decide (p' < pa + k))) &&
 ((match y.2.dst with
  | some d => !(x.2.eyes.contains d)
  | none => true) || (A.getD y.1 0).testBit x.1) &&
 (match x.2.dst with
  | some d => y.2.dst != some d
  | none => true)
def B1v (A : List Nat) (pa k : Nat) (R : List (Nat × Nat)) : Nat -> List (Nat × Mini) -> Bool
 | _, [] => true
 | p, x :: r => (r.zipIdx (p + 1)).all (fun y => A4l A pa k R p y.2 x y.1) && B1v A pa k R (p + 1) r
def A2a (l : List Mini) (π : List Nat) : List (Nat × Mini) := π.filterMap fun i => (l[i]?).map fun m => (i, m)
def C0x (ops : Array Oper) (l : List Mini) (π : List Nat) (pa k : Nat) (R : List (Nat × Nat)) : Bool :=
 (ops.toList.zipIdx.all fun p => p.1.after.toList.all fun e => decide (e.on < p.2) || !Region.binds .any e) &&
 ((A2a l π).length == l.length) && ((List.range l.length).all fun i => π.contains i) && decide (π.Nodup) &&
 B1v (ancs ops.toList []) pa k R 0 (A2a l π) && decide (pa + k <= l.length) &&
 (((A2a l π).drop pa).take k).all fun x => B9d x.2.k && x.2.g.isNone
inductive GI where
 | o (m : Mini) (kp : Bool) (ag : List Nat)
 | g (j : Nat) (m : Mini)
def GI.mini : GI -> Mini
 | .o m _ _ => m
 | .g _ m => m
abbrev Pend := List (Nat × MK × List PV × PV)
def agnP (Φ : A0u) (pd : Pend) (H : Heap) (nx : Nat) (ks : List Nat) : Prop := ∀ i ∈ ks, ∃ x, look pd i = some x /\ A1z Φ H nx x.1 x.2.1 = some x.2.2
def valD (Φ : A0u) (s : A0b) (m : Mini) : Option (PV × Heap × Nat) :=
 if A0h m.k then (valQ Φ s m).map fun v => (v, s.H, s.nx)
 else match m.wants s.env with
  | some true => A0d Φ s.H s.nx m.k (m.xs.map (·.ev s.env))
  | some false => some (.t (.v undef), s.H, s.nx)
  | none => none
def B5c (kp : Bool) (n : Nat) (m : Mini) (s : A0b) (v : PV) (pd : Pend) : Pend := if kp then (n, m.k, m.xs.map (·.ev s.env), v) :: pd else pd
open Classical in
noncomputable def runG (Φ : A0u) (k : Nat) : Nat -> Nat -> Pend -> List GI -> A0b -> Option A0b
 | _, _, _, [], s => some s
 | n, b, pd, .o m kp ag :: r, s => match valD Φ s m with
  | some (v, H', nx') => if agnP Φ pd H' nx' ag then runG Φ k (n + 1) b (B5c kp n m s v pd) r (({ s with H := H', nx := nx' } : A0b).put m.dst v) else none
  | none => none
 | n, b, pd, .g j m :: r, s => match A0d Φ s.H ((if j = 0 then s.nx else b) + k + j) m.k (m.xs.map (·.ev s.env)) with
  | some (v, H', _) => runG Φ k (n + 1) (if j = 0 then s.nx else b) pd r (({ s with H := H', nx := (if j = 0 then s.nx else b) + 2 * k } : A0b).put m.dst v)
  | none => none
def B6i (pa k : Nat) (R : List (Nat × Nat)) (l : List GI) : Bool :=
 (l.zipIdx.all fun x => match x.1 with
  | .o _ _ _ => decide (x.2 < pa) || decide (pa + k <= x.2)
  | .g j _ => decide (pa <= x.2) && decide (x.2 < pa + k) && (x.2 == pa + j)) &&
 R.all fun r => match l[r.2]? with
  | some (.o _ _ ag) => ag.contains r.1
  | _ => false
def E3a (q : List (Nat × Mini)) : Nat × Nat :=
 let free := fun x : Nat × Mini => B9d x.2.k && x.2.g.isNone
 let pa := q.findIdx free
 (if pa < q.length then pa else 0, ((q.drop pa).takeWhile free).length)
def E3b (A : List Nat) (q : List (Nat × Mini)) : List (Nat × Nat) :=
 q.zipIdx.flatMap fun y => if A0h y.1.2.k || A9k y.1.2.k then [] else
  (q.zipIdx.filter fun x => decide (x.2 < y.2) && A0h x.1.2.k && !B1u x.1.2.k && !(A.getD y.1.1 0).testBit x.1.1).map fun x => (x.2, y.2)
def C6e (pa k : Nat) (R : List (Nat × Nat)) (q : List (Nat × Mini)) : List GI :=
 q.zipIdx.map fun x => if pa <= x.2 /\ x.2 < pa + k then .g (x.2 - pa) x.1.2 else .o x.1.2 (R.any fun r => r.1 == x.2) ((R.filter fun r => r.2 == x.2).map Prod.fst)
end
end Go.Abs
