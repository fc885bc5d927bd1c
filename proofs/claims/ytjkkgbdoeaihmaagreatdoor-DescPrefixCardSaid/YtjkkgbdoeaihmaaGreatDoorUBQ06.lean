/-
 Auxiliary facts. No statement of the program stands here.
-/
import Derived.Test.YtjkkgbdoeaihmaaGreatDoorUBQ05
namespace Go.Abs
set_option linter.unusedSimpArgs false
set_option linter.unusedVariables false
open Go
def placeOf (P : Program) (t : TypeId) : Option (Nat → Option (Nat × Nat)) :=
 match P.underlying t with
 | some (.array _ e) => (P.info? e).map fun i => fun k => some (k * i.size, i.size)
 | some (.struct fields) => (fields.toList.mapM (fun f => (P.info? f.type).map fun i => (f.offset, i.size))).map fun places => fun k => places[k]?
 | _ => none
def buildV (P : Program) (t : TypeId) (parts : List (Nat × PV)) : Option PV :=
 match placeOf P t, zeroCellsOf P t with
 | some place, some zc => (fillP place (zc.map fun x => .t (.v x)) parts).map agOf
 | _, _ => none
section
variable {P : Program} {G : Globs} {B : Nat} {s : AState} {o : Oper}
theorem aop_build {t : TypeId} {parts : Array (Nat × Operand)} {r : PV} (ho : o.op = .build t parts) (h : buildV P t (parts.toList.map fun p => (p.1, s.ev G p.2)) = some r) : AOp P G B o s r s.H s.nx := by
 refine aop_light fun L a w hi => ?_
 unfold buildV at h
 split at h
 ·rename_i place zc hpl hzc
  cases hf : fillP place (zc.map fun x => .t (.v x)) (parts.toList.map fun p => (p.1, s.ev G p.2)) with
  | none => rw [hf] at h; cases h
  | some cs =>
   rw [hf] at h
   injection h with h; subst h
   unfold zeroCellsOf at hzc
   split at hzc
   ·rename_i it hit
    split at hzc
    ·rename_i z hz
     split at hzc
     ·rename_i h1
      injection hzc with hzc; subst hzc
      obtain ⟨hp1, hp2⟩ := parts_run hi parts.toList
      obtain ⟨arr, hfill, hrep, h1'⟩ := fillP_run (L := L) (w := w) _ _ _ _ z.cells hp1 hp2 (rep_map_tv P L w _) (List.all_eq_true.1 h1) hf
      have hpl2 : (parts.map fun (k, x) => (k, a.eval x)).toList = parts.toList.map fun p => (p.1, a.eval p.2) := by simp
      have hb : P.built t (parts.map fun (k, x) => (k, a.eval x)).toList = some arr := by
       unfold Program.built
       unfold placeOf at hpl
       rw [hpl2]
       split at hpl
       ·rename_i n e hu
        cases hie : P.info? e with
        | none => rw [hie] at hpl; cases hpl
        | some ie =>
         rw [hie] at hpl
         injection hpl with hpl
         subst hpl
         simp only [hit, hu, hz, hie, hfill]
       ·rename_i fields hu
        cases hm : fields.toList.mapM (fun f => (P.info? f.type).map fun i => (f.offset, i.size)) with
        | none => rw [hm] at hpl; cases hpl
        | some places =>
         rw [hm] at hpl
         injection hpl with hpl
         subst hpl
         simp only [hit, hu, hz, hm, List.getElem?_toArray, hfill]
       ·cases hpl
      have hrun := run_build (P := P) w t _ arr hb
      refine ⟨.agg arr, ?_, rep_agOf h1' hrep⟩
      simp only [execOp, ho, Sem.run_bind, hrun, Result.andThen_ok]
      rfl
     ·cases hzc
    ·cases hzc
   ·cases hzc
 ·cases h
def opV (P : Program) (H : Heap) (nx : Nat) (ev : Operand → PV) (o : Op) : Option (PV × Heap × Nat) :=
 match o with
 | .store t a x => (storeV P H t (ev a) (ev x)).map fun H' => (.t (.v undef), H', nx)
 | .makeSlice t l c => (makeV P t (ev l) (ev c) nx).map fun q => (q.1, (nx, q.2) :: H, nx + 1)
 | .buildSlice t len parts => (buildSliceV P t len (parts.toList.map fun p => (p.1, ev p.2)) nx).map fun q => (q.1, (nx, q.2) :: H, nx + 1)
 | .build t parts => (buildV P t (parts.toList.map fun p => (p.1, ev p.2))).map fun r => (r, H, nx)
 | .box t x => (cellsP (ev x)).map fun ps => (.ptr nx 0, (nx, .cells t ps) :: H, nx + 1)
 | .alloc t => (zeroCellsOf P t).map fun zc => (.ptr nx 0, (nx, .cells t (zc.map fun x => .t (.v x))) :: H, nx + 1)
 | .call ⟨.builtin .append, ⟨[x, y]⟩, ⟨[t, t']⟩⟩ => if t = t' then appendV P H nx t (ev x) (ev y) else none
 | o => (lightV P H ev o).map fun r => (r, H, nx)
theorem aop_opV {r : PV} {H' : Heap} {nx' : Nat} (h : opV P s.H s.nx (s.ev G) o.op = some (r, H', nx')) : AOp P G B o s r H' nx' := by
 unfold opV at h
 split at h
 ·rename_i t x y ho
  cases hs : storeV P s.H t (s.ev G x) (s.ev G y) with
  | none => rw [hs] at h; cases h
  | some H1 =>
   rw [hs] at h
   injection h with h; injection h with h1 h2; injection h2 with h2 h3; subst h1; subst h2; subst h3
   exact aop_store ho hs
 ·rename_i t x y ho
  cases hs : makeV P t (s.ev G x) (s.ev G y) s.nx with
  | none => rw [hs] at h; cases h
  | some q =>
   rw [hs] at h
   injection h with h; injection h with h1 h2; injection h2 with h2 h3; subst h1; subst h2; subst h3
   exact aop_make ho hs
 ·rename_i t len parts ho
  cases hs : buildSliceV P t len (parts.toList.map fun p => (p.1, s.ev G p.2)) s.nx with
  | none => rw [hs] at h; cases h
  | some q =>
   rw [hs] at h
   injection h with h; injection h with h1 h2; injection h2 with h2 h3; subst h1; subst h2; subst h3
   exact aop_buildSlice ho hs
 ·rename_i t parts ho
  cases hs : buildV P t (parts.toList.map fun p => (p.1, s.ev G p.2)) with
  | none => rw [hs] at h; cases h
  | some q =>
   rw [hs] at h
   injection h with h; injection h with h1 h2; injection h2 with h2 h3; subst h1; subst h2; subst h3
   exact aop_build ho hs
 ·rename_i t x ho
  cases hs : cellsP (s.ev G x) with
  | none => rw [hs] at h; cases h
  | some q =>
   rw [hs] at h
   injection h with h; injection h with h1 h2; injection h2 with h2 h3; subst h1; subst h2; subst h3
   exact aop_box ho hs
 ·rename_i t ho
  cases hs : zeroCellsOf P t with
  | none => rw [hs] at h; cases h
  | some q =>
   rw [hs] at h
   injection h with h; injection h with h1 h2; injection h2 with h2 h3; subst h1; subst h2; subst h3
   exact aop_alloc ho hs
 ·rename_i x y t t' ho
  split at h
  ·rename_i e
   subst e
   exact aop_append ho h
  ·cases h
 ·cases hs : lightV P s.H (s.ev G) o.op with
  | none => rw [hs] at h; cases h
  | some q =>
   rw [hs] at h
   injection h with h; injection h with h1 h2; injection h2 with h2 h3; subst h1; subst h2; subst h3
   exact aop_lightV hs
end
def IsFn (P : Program) (f : FuncId) : Prop := ∃ fn c, P.funcs[f]? = some fn ∧ fn.body = some c ∧ (fn.name == "runtime.NumGoroutine") = false
theorem IsFn.run {P : Program} {f : FuncId} (h : IsFn P f) (args : Array Value) (w : World) : (callFunc f args).run P w = .ok (.enter f args) w := by
 obtain ⟨fn, c, hf, hb, hn⟩ := h
 have hn' : ¬ fn.name = "runtime.NumGoroutine" := by simpa using hn
 simp [callFunc, hf, hn', hb]
def CallT (P : Program) (G : Globs) (f : FuncId) (args : List T) (R : T → Prop) : Prop :=
 IsFn P f ∧ ∀ (I : Nat → Prop) (w : World) (us : Array Value), (∀ b, I b → b < w.heap.size) → (∀ g cs, look G g = some cs → I g ∧ RepG I w cs g) → RepL I w args us.toList →
  Calls P f us w fun e w' => ∃ v r I', e = .returned v ∧ R r ∧ RepT I' w' r v ∧ Outer w w' ∧ w.heap.size ≤ w'.heap.size ∧ (∀ g, g < w.heap.size → w'.heap[g]? = w.heap[g]?) ∧
   (∀ g, I g → I' g) ∧ (∀ g, I' g → I g ∨ w.heap.size ≤ g) ∧ (∀ g, I' g → g < w'.heap.size)
mutual
@[simp] def toT (H : Heap) : PV → Option (T × List Nat)
 | .t x => some (x, [])
 | .row b o n z => match look H b with
  | some (.cells _ cs) => if o + n * z ≤ cs.length then (allT ((cs.drop o).take (n * z))).map fun ts => (.sl n ts, [b]) else none
  | _ => none
 | .ag cs => (toTs H cs).map fun q => (.ag q.1, q.2)
 | .tu cs => (toTs H cs).map fun q => (.tu q.1, q.2)
 | _ => none
@[simp] def toTs (H : Heap) : List PV → Option (List T × List Nat)
 | [] => some ([], [])
 | p :: ps => match toT H p, toTs H ps with
  | some (x, F), some (xs, F') => some (x :: xs, F ++ F')
  | _, _ => none
end
def Lent (L : Loc) (H : Heap) (F : List Nat) (g : Nat) : Prop := ∃ b ∈ F, (∃ r, look H b = some r) ∧ L.μ b = g
section
variable {P : Program} {G : Globs} {L : Loc} {H : Heap} {w : World}
theorem RepC.ofRow {I : Nat → Prop} {g : Nat} {ts : List T} : ∀ {o : Nat} {xs : List Value}, (∀ (j : Nat) x, xs[j]? = some x → w.cell? ⟨g, o + j, none⟩ = some x ∧ x.oneCell' = true) → RepL I w ts xs → RepC I w ts g o := by
 intro o xs hc hr
 refine RepC.mk fun k c hk => ?_
 obtain ⟨x, hx, h⟩ := hr.at_ k hk
 exact ⟨x, (hc k x hx).1, (hc k x hx).2, h⟩
theorem keeps_more {I I' : Nat → Prop} (h : ∀ g, I g → I' g) : Keeps I I' w w := fun b hb => ⟨h b hb, rfl⟩
mutual
theorem toT_rep (hok : HeapOK P G L H w) : ∀ (p : PV) {x : T} {F : List Nat} {u : Value}, toT H p = some (x, F) → RepV P L w p u → ∀ F', (∀ b ∈ F, b ∈ F') → RepT (fun g => L.I g ∨ Lent L H F' g) w x u
 | .t x, y, F, u, h, hr, F', _ => by
  simp only [toT, Option.some.injEq, Prod.mk.injEq] at h
  obtain ⟨rfl, rfl⟩ := h
  simp only [RepV] at hr
  exact RepT.keep (keeps_more fun g hg => .inl hg) _ hr
 | .row b o n z, y, F, u, h, hr, F', hF => by
  simp only [toT] at h
  split at h
  ·rename_i ty cs hl
   split at h
   ·rename_i hb
    cases ha : allT ((cs.drop o).take (n * z)) with
    | none => rw [ha] at h; cases h
    | some ts =>
     rw [ha] at h
     injection h with h; injection h with h1 h2; subst h1; subst h2
     simp only [RepV] at hr
     obtain ⟨hb', hμ, c, rfl, hc, _⟩ := hr
     obtain ⟨xs, hxl, hcell, h1, hrep⟩ := row_values (hok.rep b _ hl)
     have hseg := hrep.drop_take o (n * z)
     rw [allT_map ha] at hseg
     have hT := hseg.toT
     simp only [RepT]
     refine ⟨⟨L.μ b, o, none⟩, c, rfl, hc, .inr ⟨rfl, .inr ⟨b, hF b (by simp), ⟨_, hl⟩, rfl⟩, ?_⟩⟩
     have hT' := RepL.keep (keeps_more (I := L.I) (I' := fun g => L.I g ∨ Lent L H F' g) (w := w) fun g hg => .inl hg) ts hT
     refine RepC.ofRow (xs := (xs.drop o).take (n * z)) (fun j x hx => ?_) hT'
     rw [List.getElem?_take] at hx
     split at hx
     ·rw [List.getElem?_drop] at hx
      exact ⟨hcell _ x hx, h1 x (List.mem_of_getElem? hx)⟩
     ·cases hx
   ·cases h
  ·cases h
 | .ag cs, y, F, u, h, hr, F', hF => by
  simp only [toT] at h
  cases hq : toTs H cs with
  | none => rw [hq] at h; cases h
  | some q =>
   rw [hq] at h
   injection h with h; injection h with h1 h2; subst h1; subst h2
   simp only [RepV] at hr
   obtain ⟨us, rfl, h1, hl⟩ := hr
   simp only [RepT]
   exact ⟨us, rfl, h1, toTs_rep hok cs hq hl F' hF⟩
 | .tu cs, y, F, u, h, hr, F', hF => by
  simp only [toT] at h
  cases hq : toTs H cs with
  | none => rw [hq] at h; cases h
  | some q =>
   rw [hq] at h
   injection h with h; injection h with h1 h2; subst h1; subst h2
   simp only [RepV] at hr
   obtain ⟨us, rfl, hl⟩ := hr
   simp only [RepT]
   exact ⟨us, rfl, toTs_rep hok cs hq hl F' hF⟩
 | .ptr _ _, _, _, _, h, _, _, _ => by simp [toT] at h
 | .fn _ _ _, _, _, _, h, _, _, _ => by simp [toT] at h
 | .ic _ _, _, _, _, h, _, _, _ => by simp [toT] at h
 | .mp _, _, _, _, h, _, _, _ => by simp [toT] at h
 | .dead, _, _, _, h, _, _, _ => by simp [toT] at h
theorem toTs_rep (hok : HeapOK P G L H w) : ∀ (ps : List PV) {q : List T × List Nat} {us : List Value}, toTs H ps = some q → RepVL P L w ps us → ∀ F', (∀ b ∈ q.2, b ∈ F') → RepL (fun g => L.I g ∨ Lent L H F' g) w q.1 us
 | [], q, us, h, hr, F', _ => by
  simp only [toTs, Option.some.injEq] at h
  subst h
  simp only [RepVL] at hr
  simp only [RepL]
  exact hr
 | p :: ps, q, us, h, hr, F', hF => by
  simp only [toTs] at h
  split at h
  ·rename_i x F xs F2 hx hxs
   injection h with h; subst h
   simp only [RepVL] at hr
   obtain ⟨u, us', rfl, h1, h2⟩ := hr
   simp only [RepL]
   exact ⟨u, us', rfl, toT_rep hok p hx h1 F' (fun b hb => hF b (by simp [hb])), toTs_rep hok ps hxs h2 F' (fun b hb => hF b (by simp [hb]))⟩
  ·cases h
end
@[simp] def remAll (H : Heap) (F : List Nat) : Heap := F.foldl rem H
theorem look_remAll : ∀ (F : List Nat) (H : Heap) (k : Nat) (r : Row), look (remAll H F) k = some r → look H k = some r ∧ k ∉ F
 | [], H, k, r, h => ⟨h, by simp⟩
 | b :: F, H, k, r, h => by
  have h' : look (remAll (rem H b) F) k = some r := h
  obtain ⟨h1, h2⟩ := look_remAll F (rem H b) k r h'
  rw [look_rem] at h1
  split at h1
  ·cases h1
  ·rename_i hne
   exact ⟨h1, by simp [hne, h2]⟩
def plainT : T → Bool
 | .v _ => true
 | .tu [.v _, .v _] => true
 | _ => false
theorem plainT_rep {I I' : Nat → Prop} {w w' : World} {x : T} {u : Value} (h : plainT x = true) (hr : RepT I w x u) : RepT I' w' x u := by
 cases x with
 | v x => simpa only [RepT] using hr
 | tu cs =>
  cases cs with
  | nil => simp [plainT] at h
  | cons a cs => cases cs with
   | nil => cases a <;> simp [plainT] at h
   | cons b cs => cases cs with
    | nil => cases a <;> cases b <;> first | (simp [plainT] at h; done) | (simp only [RepT, RepL] at hr ⊢; exact hr)
    | cons c cs => cases a <;> simp [plainT] at h
 | _ => simp [plainT] at h
theorem aop_callT {B : Nat} {s : AState} {o : Oper} {f : FuncId} {args : Array Operand} {ts : Array TypeId} {targs : List T} {F : List Nat} {r : T} (ho : o.op = .call ⟨.value (.func f), args, ts⟩)
  (hT : toTs s.H (args.toList.map (s.ev G)) = some (targs, F)) (hc : CallT P G f targs (· = r)) :
  AOp P G B o s (.t r) (if plainT r then s.H else remAll s.H F) s.nx := fun L a w hi => by
 have hargs : RepVL P L w (args.toList.map (s.ev G)) (args.map a.eval).toList := by
  refine RepVL.mk (by simp) fun k c x hk hx => ?_
  simp only [List.getElem?_map, Array.toList_map] at hk hx
  cases ha : args.toList[k]? with
  | none => rw [ha] at hk; cases hk
  | some q =>
   rw [ha] at hk hx
   injection hk with hk; injection hx with hx; subst hk; subst hx
   exact hi.ev q
 have hrep := toTs_rep hi.heap _ hT hargs F (fun b hb => hb)
 unfold Oper.wp
 have hrun : (execOp a.eval o).run P w = .ok (.enter f (args.map a.eval)) w := by
  simp [execOp, ho, resolve, Act.eval, Deferred.ofValue, invoke, hc.1.run]
 rw [hrun, Oper.upon_enter]
 have hlt : ∀ b, (L.I b ∨ Lent L s.H F b) → b < w.heap.size := by
  rintro b (h | ⟨k, _, ⟨r, hr⟩, rfl⟩)
  ·exact hi.heap.lt b h
  ·exact (hi.heap.rep k r hr).lt
 refine (hc.2 _ w _ hlt (fun g cs hg => ⟨.inl (hi.heap.glob g cs hg).1, RepG.keep (keeps_more fun g hg => .inl hg) (hi.heap.glob g cs hg).1 (hi.heap.glob g cs hg).2⟩) hrep).mono ?_
 rintro e w' ⟨v, r', I', rfl, rfl, hv, hout, hsz, hsame, hmore, hnew, hltI⟩
 have hshape : Shapes w w' := fun g hg arr ty fz he => ⟨arr, fz, by rw [← hsame g hg]; exact he, rfl⟩
 by_cases hp : plainT r' = true
 ·rw [if_pos hp]
  have hm : Mono L w L w' := ⟨fun b hb => ⟨hb, hsame b (hi.heap.lt b hb)⟩, Nat.le_refl _, fun _ _ => rfl, hsz, hshape⟩
  refine ⟨v, L, rfl, by simp only [RepV]; exact plainT_rep hp hv, ?_, hi.nx, hm, ?_⟩
  ·exact ⟨fun b hb => Nat.lt_of_lt_of_le (hi.heap.lt b hb) hsz, fun b r hb => (hi.heap.rep b r hb).keep hm (hsame _ (hi.heap.rep b r hb).lt), hi.heap.apart, hi.heap.inj, hi.heap.nx, glob_keep hi.heap hm.keeps⟩
  ·exact ⟨hsz, fun g hg _ => hsame g hg, fun _ h => h, fun _ h => .inl h, fun _ h => .inr h, hshape, hout⟩
 ·rw [if_neg hp]
  have hm : Mono L w { L with I := I' } w' := ⟨fun b hb => ⟨hmore b (.inl hb), hsame b (hi.heap.lt b hb)⟩, Nat.le_refl _, fun _ _ => rfl, hsz, hshape⟩
  refine ⟨v, { L with I := I' }, rfl, by simp only [RepV]; exact hv, ?_, hi.nx, hm, ?_⟩
  ·refine ⟨hltI, fun b r hb => ?_, fun b r hb hI => ?_, fun b b' r r' hb hb' => ?_, fun b r hb => ?_, glob_keep hi.heap hm.keeps⟩
   ·have hb' := (look_remAll F s.H b r hb).1
    exact (hi.heap.rep b r hb').keep hm (hsame _ (hi.heap.rep b r hb').lt)
   ·obtain ⟨hb', hnF⟩ := look_remAll F s.H b r hb
    rcases hnew _ hI with (h | ⟨k, hk, ⟨r2, hr2⟩, e⟩) | h
    ·exact hi.heap.apart b r hb' h
    ·exact hnF ((hi.heap.inj k b r2 r hr2 hb' e) ▸ hk)
    ·have := (hi.heap.rep b r hb').lt
     exact absurd this (by have h' : w.heap.size ≤ L.μ b := h; omega)
   ·exact hi.heap.inj b b' r r' (look_remAll F s.H b r hb).1 (look_remAll F s.H b' r' hb').1
   ·exact hi.heap.nx b r (look_remAll F s.H b r hb).1
  ·refine ⟨hsz, fun g hg _ => hsame g hg, fun g h => hmore g (.inl h), fun g h => ?_, fun g ⟨k, r, hk, e⟩ => .inr ⟨k, r, (look_remAll F s.H k r hk).1, e⟩, hshape, hout⟩
   rcases hnew g h with (h | ⟨k, _, ⟨r2, hr2⟩, e⟩) | h
   ·exact .inl h
   ·exact .inr (.inr ⟨k, r2, hr2, e⟩)
   ·exact .inr (.inl h)
end
def resultsV (P : Program) (s : AState) : List ResultVar → Option (List PV)
 | [] => some []
 | .tmp t :: r => match look s.env t, resultsV P s r with
  | some p, some ps => some (p :: ps)
  | _, _ => none
 | .cell a t :: r => match look s.env a, resultsV P s r with
  | some (.ptr b o), some ps => (loadV P s.H t (.ptr b o)).map (· :: ps)
  | _, _ => none
def resultV (P : Program) (fn : Func) (s : AState) : Option PV :=
 match resultsV P s fn.results.toList with
 | some [p] => some p
 | some ps => some (match allT ps with | some ts => .t (.tu ts) | none => .tu ps)
 | none => none
section
variable {P : Program} {G : Globs} {B : Nat} {L : Loc} {s : AState} {a : Act} {w : World}
def resSem (tmps : Array Value) : ResultVar → Sem Value
 | .tmp t => pure (tmps.getD t undef)
 | .cell a t => do loadVar t (← asAddr (tmps.getD a undef))
theorem results_eq (fn : Func) (tmps : Array Value) : results fn tmps = (do let vs ← fn.results.mapM (resSem tmps); pure (if h : vs.size = 1 then vs[0] else .tuple vs)) := by
 unfold results
 congr 2
theorem resultsV_run (hi : Interp P G B L s a w) : ∀ (rs : List ResultVar) {ps : List PV}, resultsV P s rs = some ps →
  ∃ vs : List Value, (rs.mapM (resSem a.tmps)).run P w = .ok vs w ∧ RepVL P L w ps vs
 | [], ps, h => by
  simp only [resultsV, Option.some.injEq] at h
  subst h
  exact ⟨[], by simp, by simp only [RepVL]⟩
 | .tmp t :: r, ps, h => by
  simp only [resultsV] at h
  split at h
  ·rename_i p ps' hl hr
   injection h with h; subst h
   obtain ⟨vs, hrun, hrep⟩ := resultsV_run hi r hr
   refine ⟨a.tmps.getD t undef :: vs, ?_, by simp only [RepVL]; exact ⟨_, _, rfl, hi.env t p hl, hrep⟩⟩
   rw [List.mapM_cons]
   simp only [resSem, Sem.run_bind, Sem.run_pure, Result.andThen_ok, hrun]
  ·cases h
 | .cell x t :: r, ps, h => by
  simp only [resultsV] at h
  split at h
  ·rename_i b o ps' hl hr
   cases hv : loadV P s.H t (.ptr b o) with
   | none => rw [hv] at h; cases h
   | some q =>
    rw [hv] at h
    injection h with h; subst h
    obtain ⟨vs, hrun, hrep⟩ := resultsV_run hi r hr
    have hx := hi.env x _ hl
    obtain ⟨v, hload, hvr⟩ := loadV_run hi.heap hv hx
    have hx' := hx
    simp only [RepV] at hx'
    refine ⟨v :: vs, ?_, by simp only [RepVL]; exact ⟨_, _, rfl, hvr, hrep⟩⟩
    rw [List.mapM_cons]
    have hload' : (resSem a.tmps (.cell x t)).run P w = .ok v w := by
     rw [hx'.2] at hload
     simp only [resSem, hx'.2, asAddr]
     simpa [Instr.loadAt, Instr.sureAddr] using hload
    simp only [Sem.run_bind, hload', Result.andThen_ok, hrun, Sem.run_pure]
  ·cases h
theorem resultV_run {fn : Func} {p : PV} (hi : Interp P G B L s a w) (h : resultV P fn s = some p) : ∃ v, (results fn a.tmps).run P w = .ok v w ∧ RepV P L w p v := by
 unfold resultV at h
 have key : ∀ {ps}, resultsV P s fn.results.toList = some ps → ∃ vs : Array Value, (results fn a.tmps).run P w = .ok (if h : vs.size = 1 then vs[0] else .tuple vs) w ∧ RepVL P L w ps vs.toList := by
  intro ps hps
  obtain ⟨vs, hrun, hrep⟩ := resultsV_run hi _ hps
  refine ⟨vs.toArray, ?_, by simpa using hrep⟩
  rw [results_eq, Array.mapM_eq_mapM_toList]
  simp [hrun]
 split at h
 ·rename_i q hq
  injection h with h; subst h
  obtain ⟨vs, hrun, hrep⟩ := key hq
  simp only [RepVL] at hrep
  obtain ⟨x, xs, e, hx, rfl⟩ := hrep
  have hvs : vs = #[x] := by cases vs; simpa using e
  subst hvs
  exact ⟨x, by simpa using hrun, hx⟩
 ·rename_i ps hne hq
  injection h with h; subst h
  obtain ⟨vs, hrun, hrep⟩ := key hq
  have hl := hrep.length
  have h1 : ¬ vs.size = 1 := by
   intro h1
   have : ps.length = 1 := by rw [← hl]; simpa using h1
   match ps, this with
   | [q], _ => exact hne q rfl
  rw [dif_neg h1] at hrun
  refine ⟨.tuple vs, hrun, ?_⟩
  cases ha : allT ps with
  | none => simp only [RepV]; exact ⟨vs, rfl, hrep⟩
  | some ts =>
   have := allT_map ha
   subst this
   simp only [RepV, RepT]
   exact ⟨vs, rfl, hrep.toT⟩
 ·cases h
theorem look_zipIdx : ∀ (args : List PV) (k j : Nat) (p : PV), look ((args.zipIdx j).map (fun q => (q.2, q.1))) k = some p → j ≤ k ∧ args[k - j]? = some p
 | [], k, j, p, h => by simp [look] at h
 | x :: args, k, j, p, h => by
  simp only [List.zipIdx_cons, List.map_cons, look] at h
  by_cases e : j = k
  ·rw [if_pos e] at h; subst e; simpa using h
  ·rw [if_neg e] at h
   obtain ⟨h1, h2⟩ := look_zipIdx args k (j + 1) p h
   refine ⟨by omega, ?_⟩
   rw [show k - j = (k - (j + 1)) + 1 by omega]
   simpa using h2
end
def CallP (P : Program) (G : Globs) (f : FuncId) (ps : List PV) (H : Heap) (nx : Nat) (r : PV) (H' : Heap) (nx' : Nat) : Prop :=
 IsFn P f ∧ ∀ (L : Loc) (w : World) (us : Array Value), HeapOK P G L H w → L.nx = nx → RepVL P L w ps us.toList →
  Calls P f us w fun e w' => ∃ v L', e = .returned v ∧ RepV P L' w' r v ∧ HeapOK P G L' H' w' ∧ L'.nx = nx' ∧ Mono L w L' w' ∧ Ext L H w L' H' w'
theorem RepVL.append {P : Program} {L : Loc} {w : World} : ∀ {ps qs : List PV} {us vs : List Value}, RepVL P L w ps us → RepVL P L w qs vs → RepVL P L w (ps ++ qs) (us ++ vs)
 | [], qs, us, vs, h, h' => by simp only [RepVL] at h; subst h; simpa using h'
 | p :: ps, qs, us, vs, h, h' => by
  simp only [RepVL] at h
  obtain ⟨x, xs, rfl, hx, hxs⟩ := h
  simp only [List.cons_append, RepVL]
  exact ⟨x, xs ++ vs, rfl, hx, RepVL.append hxs h'⟩
section
variable {P : Program} {G : Globs} {B : Nat} {s : AState} {o : Oper} {f : FuncId} {r : PV} {H' : Heap} {nx' : Nat}
theorem rep_args {L : Loc} {a : Act} {w : World} (hi : Interp P G B L s a w) (args : Array Operand) : RepVL P L w (args.toList.map (s.ev G)) (args.map a.eval).toList := by
 refine RepVL.mk (by simp) fun k c x hk hx => ?_
 simp only [List.getElem?_map, Array.toList_map] at hk hx
 cases ha : args.toList[k]? with
 | none => rw [ha] at hk; cases hk
 | some q =>
  rw [ha] at hk hx
  injection hk with hk; injection hx with hx; subst hk; subst hx
  exact hi.ev q
theorem aop_enter {ps : List PV} (hc : CallP P G f ps s.H s.nx r H' nx')
  (hrun : ∀ L a w, Interp P G B L s a w → ∃ us : Array Value, (execOp a.eval o).run P w = .ok (.enter f us) w ∧ RepVL P L w ps us.toList) : AOp P G B o s r H' nx' := fun L a w hi => by
 obtain ⟨us, hr, hrep⟩ := hrun L a w hi
 unfold Oper.wp
 rw [hr, Oper.upon_enter]
 refine (hc.2 L w us hi.heap hi.nx hrep).mono ?_
 rintro e w' ⟨v, L', rfl, hv, hok, hnx, hm, hx⟩
 exact ⟨v, L', rfl, hv, hok, hnx, hm, hx⟩
theorem aop_callP {args : Array Operand} {ts : Array TypeId} (ho : o.op = .call ⟨.value (.func f), args, ts⟩) (hc : CallP P G f (args.toList.map (s.ev G)) s.H s.nx r H' nx') : AOp P G B o s r H' nx' :=
 aop_enter hc fun L a w hi => ⟨args.map a.eval, by simp [execOp, ho, resolve, Act.eval, Deferred.ofValue, invoke, hc.1.run], rep_args hi args⟩
theorem aop_callV {x : Operand} {args : Array Operand} {ts : Array TypeId} (ho : o.op = .call ⟨.value x, args, ts⟩) (hx : s.ev G x = .t (.v (.func (.func f) #[] #[]))) (hc : CallP P G f (args.toList.map (s.ev G)) s.H s.nx r H' nx') : AOp P G B o s r H' nx' :=
 aop_enter hc fun L a w hi => by
  have := hi.ev x
  rw [hx] at this
  simp only [RepV, RepT] at this
  exact ⟨args.map a.eval, by simp [execOp, ho, resolve, this, Deferred.ofValue, invoke, hc.1.run], rep_args hi args⟩
theorem aop_callF {x : Operand} {args : Array Operand} {ts : Array TypeId} {first cap : List PV} (ho : o.op = .call ⟨.value x, args, ts⟩) (hx : s.ev G x = .fn (.func f) first cap)
  (hc : CallP P G f (first ++ args.toList.map (s.ev G) ++ cap) s.H s.nx r H' nx') : AOp P G B o s r H' nx' :=
 aop_enter hc fun L a w hi => by
  have := hi.ev x
  rw [hx] at this
  simp only [RepV] at this
  obtain ⟨us, vs, e, h1, h2⟩ := this
  refine ⟨us ++ args.map a.eval ++ vs, by simp [execOp, ho, resolve, e, Deferred.ofValue, invoke, hc.1.run], ?_⟩
  have := (h1.append (rep_args hi args)).append h2
  simpa using this
end
theorem CallT.callP {P : Program} {G : Globs} {f : FuncId} {H : Heap} {nx : Nat} {ps : List PV} {targs : List T} {F : List Nat} {r : T} (hT : toTs H ps = some (targs, F)) (hc : CallT P G f targs (· = r)) :
  CallP P G f ps H nx (.t r) (if plainT r then H else remAll H F) nx := by
 refine ⟨hc.1, fun L w us hheap hnx hargs => ?_⟩
 have hrep := toTs_rep hheap _ hT hargs F (fun b hb => hb)
 have hlt : ∀ b, (L.I b ∨ Lent L H F b) → b < w.heap.size := by
  rintro b (h | ⟨k, _, ⟨r, hr⟩, rfl⟩)
  ·exact hheap.lt b h
  ·exact (hheap.rep k r hr).lt
 refine (hc.2 _ w us hlt (fun g cs hg => ⟨.inl (hheap.glob g cs hg).1, RepG.keep (keeps_more fun g hg => .inl hg) (hheap.glob g cs hg).1 (hheap.glob g cs hg).2⟩) hrep).mono ?_
 rintro e w' ⟨v, r', I', rfl, rfl, hv, hout, hsz, hsame, hmore, hnew, hltI⟩
 have hshape : Shapes w w' := fun g hg arr ty fz he => ⟨arr, fz, by rw [← hsame g hg]; exact he, rfl⟩
 by_cases hp : plainT r' = true
 ·rw [if_pos hp]
  have hm : Mono L w L w' := ⟨fun b hb => ⟨hb, hsame b (hheap.lt b hb)⟩, Nat.le_refl _, fun _ _ => rfl, hsz, hshape⟩
  refine ⟨v, L, rfl, by simp only [RepV]; exact plainT_rep hp hv, ?_, hnx, hm, ?_⟩
  ·exact ⟨fun b hb => Nat.lt_of_lt_of_le (hheap.lt b hb) hsz, fun b r hb => (hheap.rep b r hb).keep hm (hsame _ (hheap.rep b r hb).lt), hheap.apart, hheap.inj, hheap.nx, glob_keep hheap hm.keeps⟩
  ·exact ⟨hsz, fun g hg _ => hsame g hg, fun _ h => h, fun _ h => .inl h, fun _ h => .inr h, hshape, hout⟩
 ·rw [if_neg hp]
  have hm : Mono L w { L with I := I' } w' := ⟨fun b hb => ⟨hmore b (.inl hb), hsame b (hheap.lt b hb)⟩, Nat.le_refl _, fun _ _ => rfl, hsz, hshape⟩
  refine ⟨v, { L with I := I' }, rfl, by simp only [RepV]; exact hv, ?_, hnx, hm, ?_⟩
  ·refine ⟨hltI, fun b r hb => ?_, fun b r hb hI => ?_, fun b b' r r' hb hb' => ?_, fun b r hb => ?_, glob_keep hheap hm.keeps⟩
   ·have hb' := (look_remAll F H b r hb).1
    exact (hheap.rep b r hb').keep hm (hsame _ (hheap.rep b r hb').lt)
   ·obtain ⟨hb', hnF⟩ := look_remAll F H b r hb
    rcases hnew _ hI with (h | ⟨k, hk, ⟨r2, hr2⟩, e⟩) | h
    ·exact hheap.apart b r hb' h
    ·exact hnF ((hheap.inj k b r2 r hr2 hb' e) ▸ hk)
    ·have := (hheap.rep b r hb').lt
     exact absurd this (by have h' : w.heap.size ≤ L.μ b := h; omega)
   ·exact hheap.inj b b' r r' (look_remAll F H b r hb).1 (look_remAll F H b' r' hb').1
   ·exact hheap.nx b r (look_remAll F H b r hb).1
  ·refine ⟨hsz, fun g hg _ => hsame g hg, fun g h => hmore g (.inl h), fun g h => ?_, fun g ⟨k, r, hk, e⟩ => .inr ⟨k, r, (look_remAll F H k r hk).1, e⟩, hshape, hout⟩
   rcases hnew g h with (h | ⟨k, _, ⟨r2, hr2⟩, e⟩) | h
   ·exact .inl h
   ·exact .inr (.inr ⟨k, r2, hr2, e⟩)
   ·exact .inr (.inl h)
structure Oracle where
 t : FuncId → List T → Option T
 h : FuncId → List PV → Heap → Nat → Option (PV × Heap × Nat)
instance : CoeFun Oracle (fun _ => FuncId → List T → Option T) := ⟨Oracle.t⟩
structure Oracle.Sound (P : Program) (G : Globs) (Φ : Oracle) : Prop where
 t : ∀ f args r, Φ.t f args = some r → CallT P G f args (· = r)
 h : ∀ f ps H nx r H' nx', Φ.h f ps H nx = some (r, H', nx') → CallP P G f ps H nx r H' nx'
 fresh : ∀ f ps H nx r H' nx', Φ.h f ps H nx = some (r, H', nx') → (∀ b x, look H b = some x → b < nx) → ∀ b x, look H' b = some x → b < nx'
def refT (P : Program) (t : TypeId) : Bool :=
 match P.underlying t with
 | some (.pointer _) | some (.func _ _ _) | some (.map _ _) => true
 | _ => false
def hot : List Nat := [42, 43, 38, 39, 58, 89]
def callvM (Φ : Oracle) (H : Heap) (nx : Nat) (fv : PV) (ps : List PV) : Option (PV × Heap × Nat) :=
 match fv with
 | .t (.v (.func (.func f) ⟨[]⟩ ⟨[]⟩)) => Φ.h f ps H nx
 | .fn (.func f) first cap => Φ.h f (first ++ ps ++ cap) H nx
 | _ => none
def valV (P : Program) (G : Globs) (Φ : Oracle) (s : AState) (o : Op) : Option (PV × Heap × Nat) :=
 match o with
 | .call ⟨.value (.func f), args, ts⟩ => if ts.toList.any (refT P) || hot.contains f then Φ.h f (args.toList.map (s.ev G)) s.H s.nx else
  (match toTs s.H (args.toList.map (s.ev G)) with
  | some (targs, F) => match Φ f targs with
   | some r => some (.t r, if F.isEmpty then s.H else if plainT r then s.H else remAll s.H F, s.nx)
   | none => none
  | none => none)
 | .call ⟨.value x, args, _⟩ => callvM Φ s.H s.nx (s.ev G x) (args.toList.map (s.ev G))
 | o => opV P s.H s.nx (s.ev G) o
section
variable {P : Program} {G : Globs} {B : Nat} {s : AState} {o : Oper} {Φ : Oracle}
theorem aop_valV (hΦ : Φ.Sound P G) {r : PV} {H' : Heap} {nx' : Nat} (h : valV P G Φ s o.op = some (r, H', nx')) : AOp P G B o s r H' nx' := by
 unfold valV at h
 split at h
 ·rename_i f args ts ho
  split at h
  ·exact aop_callP ho (hΦ.h _ _ _ _ _ _ _ h)
  ·split at h
   ·rename_i targs F hT
    split at h
    ·rename_i q hq
     injection h with h; injection h with h1 h2; injection h2 with h2 h3; subst h1; subst h3
     have := aop_callT (B := B) ho hT (hΦ.t f targs q hq)
     cases hF : F.isEmpty with
     | true =>
      have : F = [] := by simpa using hF
      subst this
      simp only [List.isEmpty_nil, if_true] at h2
      subst h2
      rename_i this
      have e : (if plainT q = true then s.H else remAll s.H []) = s.H := by split <;> rfl
      rw [e] at this
      exact this
     | false =>
      rw [hF] at h2
      simp only [Bool.false_eq_true, if_false] at h2
      subst h2
      exact this
    ·cases h
   ·cases h
 ·rename_i x args ts hne ho
  unfold callvM at h
  split at h
  ·rename_i f hx
   exact aop_callV ho hx (hΦ.h _ _ _ _ _ _ _ h)
  ·rename_i f first cap hx
   exact aop_callF ho hx (hΦ.h _ _ _ _ _ _ _ h)
  ·cases h
 ·exact aop_opV h
end
def ancs : List Oper → List Nat → List Nat
 | [], acc => acc
 | o :: rest, acc => ancs rest (acc ++ [(o.after.toList.filter (Region.binds .any)).foldl (fun m e => m ||| 2 ^ e.on ||| acc.getD e.on 0) 0])
section
variable {ops : Array Oper}
def Closed (ops : Array Oper) (S : Array Bool) : Prop := ∀ (i : Nat) o, ops[i]? = some o → S.getD i false = true → ∀ e ∈ o.after.toList, Region.binds .any e = true → S.getD e.on false = true
theorem foldl_or_bit (acc : List Nat) (i : Nat) : ∀ (es : List Edge) (m : Nat), (es.foldl (fun m e => m ||| 2 ^ e.on ||| acc.getD e.on 0) m).testBit i = true → m.testBit i = true ∨ ∃ e ∈ es, e.on = i ∨ (acc.getD e.on 0).testBit i = true
 | [], m, h => .inl h
 | e :: es, m, h => by
  simp only [List.foldl_cons] at h
  rcases foldl_or_bit acc i es _ h with h | ⟨e', he', h⟩
  ·simp only [Nat.testBit_or, Bool.or_eq_true] at h
   rcases h with (h | h) | h
   ·exact .inl h
   ·rw [Nat.testBit_two_pow] at h
    exact .inr ⟨e, by simp, .inl (by simpa using h)⟩
   ·exact .inr ⟨e, by simp, .inr h⟩
  ·exact .inr ⟨e', by simp [he'], h⟩
theorem ancs_sound {S : Array Bool} (hS : Closed ops S) : ∀ (rest done : List Oper) (acc : List Nat), ops.toList = done ++ rest → acc.length = done.length →
  (∀ (j : Nat) i o, done[j]? = some o → (acc.getD j 0).testBit i = true → (∀ e ∈ o.after.toList, Region.binds .any e = true → S.getD e.on false = true) → S.getD i false = true) →
  ∀ (j : Nat) i o, ops[j]? = some o → ((ancs rest acc).getD j 0).testBit i = true → (∀ e ∈ o.after.toList, Region.binds .any e = true → S.getD e.on false = true) → S.getD i false = true
 | [], done, acc, he, hl, h => by
  intro j i o ho hb hp
  refine h j i o ?_ hb hp
  have : ops.toList[j]? = some o := by simpa using ho
  rwa [he, List.append_nil] at this
 | q :: rest, done, acc, he, hl, h => by
  refine ancs_sound hS rest (done ++ [q]) _ (by simp [he]) (by simp [hl]) ?_
  intro j i o ho hb hp
  by_cases hj : j < done.length
  ·rw [List.getElem?_append_left hj] at ho
   rw [List.getD_eq_getElem?_getD, List.getElem?_append_left (by omega), ← List.getD_eq_getElem?_getD] at hb
   exact h j i o ho hb hp
  ·have hj2 : j = done.length := by
    have := (List.getElem?_eq_some_iff.1 ho).1
    simp at this
    omega
   subst hj2
   simp only [List.getElem?_append_right (Nat.le_refl _), Nat.sub_self, List.getElem?_cons_zero, Option.some.injEq] at ho
   subst ho
   rw [List.getD_eq_getElem?_getD, ← hl, List.getElem?_append_right (Nat.le_refl _)] at hb
   simp only [Nat.sub_self, List.getElem?_cons_zero, Option.getD_some] at hb
   rcases foldl_or_bit acc i _ 0 hb with hb | ⟨e, he', hb⟩
   ·simp at hb
   ·obtain ⟨he1, he2⟩ := List.mem_filter.1 he'
    have hpe := hp e he1 he2
    rcases hb with rfl | hb
    ·exact hpe
    ·
     by_cases hlt : e.on < done.length
     ·obtain ⟨oe, hoe⟩ : ∃ oe, done[e.on]? = some oe := ⟨_, List.getElem?_eq_getElem hlt⟩
      refine h e.on i oe hoe hb ?_
      refine hS e.on oe ?_ hpe
      have : ops.toList[e.on]? = some oe := by rw [he, List.getElem?_append_left hlt]; exact hoe
      simpa using this
     ·rw [List.getD_eq_getElem?_getD, List.getElem?_eq_none (by omega)] at hb
      simp at hb
theorem before_listed {S : Array Bool} (hS : Closed ops S) {i j : Nat} {o : Oper} (ho : ops[j]? = some o) (hb : ((ancs ops.toList []).getD j 0).testBit i = true)
  (hp : ∀ e ∈ o.after.toList, Region.binds .any e = true → S.getD e.on false = true) : S.getD i false = true :=
 ancs_sound hS ops.toList [] [] (by simp) rfl (by simp) j i o ho hb hp
end
inductive Opd where
 | tmp (t : Nat)
 | k (p : PV)
@[simp] def Opd.ev (env : List (Nat × PV)) : Opd → PV
 | .tmp t => (look env t).getD .dead
 | .k p => p
def compOpd (G : Globs) : Operand → Opd
 | .tmp t => .tmp t
 | .const x => .k (ofConst x)
 | .global g => .k (match look G g with
  | some cs => .t (.pt cs)
  | none => .t (.v (.pointer (some ⟨g, 0, none⟩))))
 | .func f => .k (.t (.v (.func (.func f) #[] #[])))
theorem compOpd_ev (G : Globs) (s : AState) (x : Operand) : (compOpd G x).ev s.env = s.ev G x := by cases x <;> rfl
inductive NK where
 | sl | ifc | ptr | fn | mp
inductive CK where
 | i | s | b
inductive EK where
 | eqs (neg : Bool) (ks : List CK)
 | mki (t : Nat)
 | mkf (f : Fn) (n : Nat)
inductive HK where
 | range
 | next
 | b2s
 | pan
inductive MK where
 | mv
 | pick
 | bin (isB : Bool) (op : BinOp) (nk : Option NK)
 | un (op : UnOp)
 | conv (k : Option IntKind)
 | load (agg : Bool) (n : Nat)
 | faddr (off : Nat)
 | field (off : Nat) (agg : Bool) (n : Nat)
 | iaddr (z : Nat)
 | aaddr (len z : Nat)
 | index
 | slstr (lo hi : Bool)
 | slice (z : Nat) (lo hi : Bool)
 | ext (i : Nat)
 | chk
 | lenstr
 | lensl
 | min
 | max
 | store (n : Nat)
 | make (e n by' : Nat) (zc : List Value)
 | bslice (e n : Nat) (zc : List Value) (len : Nat) (idx : List Nat)
 | build (places : List (Nat × Nat)) (zc : List Value) (idx : List Nat)
 | barr (n : Nat) (zc : List Value) (idx : List Nat)
 | box (t : Nat)
 | alloc (t : Nat) (zc : List Value)
 | app (e n by' : Nat)
 | call (f : Nat)
 | hcall (f : Nat)
 | callv
 | tslice (e n : Nat) (zc : List Value) (len : Nat) (idx : List Nat)
 | bad
 | ex (e : EK)
 | hx (h : HK)
def isBoolT (P : Program) (t : TypeId) : Bool := match P.underlying t with | some .bool => true | _ => false
@[simp] def binM (isB : Bool) (op : BinOp) (x y : Value) : Option Value :=
 match x, y with
 | .int k a, .int k' b =>
  match op with
  | .shl => if b < 0 then none else some (.int k (k.wrap (a * 2 ^ (min b.toNat k.bits))))
  | .shr => if b < 0 then none else some (.int k (a.fdiv (2 ^ (min b.toNat k.bits))))
  | .add => if k = k' then some (.int k (k.wrap (a + b))) else none
  | .sub => if k = k' then some (.int k (k.wrap (a - b))) else none
  | .mul => if k = k' then some (.int k (k.wrap (a * b))) else none
  | .quo => if k = k' then (if b = 0 then none else some (.int k (k.wrap (a.tdiv b)))) else none
  | .rem => if k = k' then (if b = 0 then none else some (.int k (a.tmod b))) else none
  | .and => if k = k' then some (.int k (k.wrap (BitVec.ofInt k.bits a &&& BitVec.ofInt k.bits b).toNat)) else none
  | .or => if k = k' then some (.int k (k.wrap (BitVec.ofInt k.bits a ||| BitVec.ofInt k.bits b).toNat)) else none
  | .xor => if k = k' then some (.int k (k.wrap (BitVec.ofInt k.bits a ^^^ BitVec.ofInt k.bits b).toNat)) else none
  | .andNot => if k = k' then some (.int k (k.wrap (BitVec.ofInt k.bits a &&& ~~~ (BitVec.ofInt k.bits b)).toNat)) else none
  | .eql => if k = k' then some (.bool (a == b)) else none
  | .neq => if k = k' then some (.bool (a != b)) else none
  | .lss => if k = k' then some (.bool (decide (a < b))) else none
  | .leq => if k = k' then some (.bool (decide (a ≤ b))) else none
  | .gtr => if k = k' then some (.bool (decide (b < a))) else none
  | .geq => if k = k' then some (.bool (decide (b ≤ a))) else none
 | .string a, .string b =>
  match op with
  | .add => if a.size + b.size ≤ 9223372036854775807 then some (.string (a ++ b)) else none
  | .eql => some (.bool (a.toList == b.toList))
  | .neq => some (.bool (!(a.toList == b.toList)))
  | .lss => some (.bool (Op.bytesLess a.toList b.toList))
  | .leq => some (.bool (Op.bytesLess a.toList b.toList || a.toList == b.toList))
  | .gtr => some (.bool (!(Op.bytesLess a.toList b.toList || a.toList == b.toList)))
  | .geq => some (.bool (!(Op.bytesLess a.toList b.toList)))
  | _ => none
 | .bool a, .bool b =>
  match op, isB with
  | .eql, true => some (.bool (a == b))
  | .neq, true => some (.bool (!(a == b)))
  | _, _ => none
 | _, _ => none
theorem binM_eq (P : Program) (t : TypeId) (op : BinOp) (x y : Value) : binV P t op x y = binM (isBoolT P t) op x y := by
 unfold binV binM isBoolT
 cases x <;> cases y <;> try rfl
 case bool.bool a b =>
  simp only
  cases hu : P.underlying t with
  | none => cases op <;> rfl
  | some d => cases d <;> cases op <;> rfl
@[simp] def nilM (nk : NK) (p : PV) : Option Bool :=
 match nk, p with
 | .sl, .t (.v (.slice none _ _)) => some true
 | .sl, .t (.sl _ _) => some false
 | .sl, .row _ _ _ _ => some false
 | .ifc, .t (.v .nilIface) => some true
 | .ifc, .t (.ic _ _) => some false
 | .ifc, .ic _ _ => some false
 | .ptr, .t (.v (.pointer none)) => some true
 | .ptr, .t (.pt _) => some false
 | .ptr, .ptr _ _ => some false
 | .fn, .t (.v .nilFunc) => some true
 | .fn, .t (.v (.func _ _ _)) => some false
 | .fn, .fn _ _ _ => some false
 | .mp, .t (.v (.map none)) => some true
 | .mp, .mp _ => some false
 | _, _ => none
def nkOf (P : Program) (t : TypeId) : Operand → Option NK
 | .const (.slice none _ _) => match P.underlying t with | some (.slice _) => some .sl | _ => none
 | .const .nilIface => match P.underlying t with | some (.interface _) => some .ifc | _ => none
 | .const (.pointer none) => match P.underlying t with | some (.pointer _) => some .ptr | _ => none
 | .const .nilFunc => match P.underlying t with | some (.func _ _ _) => some .fn | _ => none
 | .const (.map none) => match P.underlying t with | some (.map _ _) => some .mp | _ => none
 | _ => none
@[simp] def cmpM (op : BinOp) (nk : Option NK) (p : PV) : Option PV :=
 match nk with
 | some n => match op with
  | .eql => (nilM n p).map fun b => .t (.v (.bool b))
  | .neq => (nilM n p).map fun b => .t (.v (.bool (!b)))
  | _ => none
 | none => none
theorem cmpM_sub (P : Program) (op : BinOp) (t : TypeId) (p : PV) (y : Operand) {r : PV} (h : cmpM op (nkOf P t y) p = some r) : cmpNil P op t p y = some r := by
 have key : ∀ c n b, nkOf P t (.const c) = some n → nilM n p = some b → nilEq P t p c = some b := by
  intro c n b hn hb
  unfold nkOf at hn
  split at hn <;> (try cases hn) <;> (rename_i hc; injection hc with hc; subst hc; split at hn <;> (try cases hn))
  all_goals (rename_i hu; unfold nilEq; rw [hu]; unfold nilM at hb; split at hb <;> (try cases hb) <;> first | rfl | contradiction)
 cases y with
 | const c =>
  simp only [cmpM] at h
  split at h
  ·rename_i n hn
   simp only [cmpNil]
   cases op <;> simp only at h ⊢ <;> try cases h
   all_goals
    cases hb : nilM n p with
    | none => rw [hb] at h; cases h
    | some b => rw [hb] at h; rw [key c n b hn hb]; exact h
  ·cases h
 | tmp _ => simp [nkOf, cmpM] at h
 | global _ => simp [nkOf, cmpM] at h
 | func _ => simp [nkOf, cmpM] at h
end Go.Abs
