/-
  Struct literals; all operations but calls in one function ('opV'); contracts of functions ('CallT'), how they are used at a call and how they are proved from a body. No statement of the program stands here.
  Contracts of functions that are handed rows ('CallP'): what comes back, and the rows behind the call. How they are used at a call. No statement of the program stands here.
  Running code that bears no loop, over abstract states ('runCode'), given what the called functions return ('Φ'); regions that draw their order. No statement of the program stands here.
  Operations with all that hangs on types worked out ahead ('MK', 'evalK'): a compact form of the code, compiled from the program's own. No statement of the program stands here.
  Further operations: == of structs, ranges over strings, bytes as a string. No statement of the program stands here.
  Operations with all that hangs on types worked out ahead, further: what each gives ('evalK'), how it is compiled from the program's own operation ('compOp'), and that the two agree. No statement of the program stands here.
  Regions in compact form; a region that draws its order may be run in the text's order. No statement of the program stands here.
-/
import Derived.Test.YtbabdjhikamkoaaDoorQ2
import Derived.Laws.StructEq
import Derived.Laws.BytesString
import Derived.Laws.RangeString
namespace Go.Abs
set_option linter.unusedSimpArgs false
set_option linter.unusedVariables false
open Go

/-- Where the parts of a struct's or an array's literal lie. -/
def placeOf (P : Program) (t : TypeId) : Option (Nat → Option (Nat × Nat)) :=
  match P.underlying t with
  | some (.array _ e) => (P.info? e).map fun i => fun k => some (k * i.size, i.size)
  | some (.struct fields) => (fields.toList.mapM (fun f => (P.info? f.type).map fun i => (f.offset, i.size))).map fun places => fun k => places[k]?
  | _ => none

def buildV (P : Program) (t : TypeId) (parts : List (Nat × PV)) : Option PV :=
  match placeOf P t, zeroCellsOf P t with
  | some place, some zc => (fillP place (zc.map fun x => .t (.v x)) parts).map agOf
  | _, _ => none

section
variable {P : Program} {G : Globs} {B : Nat} {s : AState} {o : Oper}

theorem aop_build {t : TypeId} {parts : Array (Nat × Operand)} {r : PV} (ho : o.op = .build t parts) (h : buildV P t (parts.toList.map fun p => (p.1, s.ev G p.2)) = some r) : AOp P G B o s r s.H s.nx := by
  refine aop_light fun L a w hi => ?_
  unfold buildV at h
  split at h
  · rename_i place zc hpl hzc
    cases hf : fillP place (zc.map fun x => .t (.v x)) (parts.toList.map fun p => (p.1, s.ev G p.2)) with
    | none => rw [hf] at h; cases h
    | some cs =>
      rw [hf] at h
      injection h with h; subst h
      unfold zeroCellsOf at hzc
      split at hzc
      · rename_i it hit
        split at hzc
        · rename_i z hz
          split at hzc
          · rename_i h1
            injection hzc with hzc; subst hzc
            obtain ⟨hp1, hp2⟩ := parts_run hi parts.toList
            obtain ⟨arr, hfill, hrep, h1'⟩ := fillP_run (L := L) (w := w) _ _ _ _ z.cells hp1 hp2 (rep_map_tv P L w _) (List.all_eq_true.1 h1) hf
            have hpl2 : (parts.map fun (k, x) => (k, a.eval x)).toList = parts.toList.map fun p => (p.1, a.eval p.2) := by simp
            have hb : P.built t (parts.map fun (k, x) => (k, a.eval x)).toList = some arr := by
              unfold Program.built
              unfold placeOf at hpl
              rw [hpl2]
              split at hpl
              · rename_i n e hu
                cases hie : P.info? e with
                | none => rw [hie] at hpl; cases hpl
                | some ie =>
                  rw [hie] at hpl
                  injection hpl with hpl
                  subst hpl
                  simp only [hit, hu, hz, hie, hfill]
              · rename_i fields hu
                cases hm : fields.toList.mapM (fun f => (P.info? f.type).map fun i => (f.offset, i.size)) with
                | none => rw [hm] at hpl; cases hpl
                | some places =>
                  rw [hm] at hpl
                  injection hpl with hpl
                  subst hpl
                  simp only [hit, hu, hz, hm, List.getElem?_toArray, hfill]
              · cases hpl
            have hrun := run_build (P := P) w t _ arr hb
            refine ⟨.agg arr, ?_, rep_agOf h1' hrep⟩
            simp only [execOp, ho, Sem.run_bind, hrun, Result.andThen_ok]
            rfl
          · cases hzc
        · cases hzc
      · cases hzc
  · cases h

/-- Every operation but a call of a function. -/
def opV (P : Program) (H : Heap) (nx : Nat) (ev : Operand → PV) (o : Op) : Option (PV × Heap × Nat) :=
  match o with
  | .store t a x => (storeV P H t (ev a) (ev x)).map fun H' => (.t (.v undef), H', nx)
  | .makeSlice t l c => (makeV P t (ev l) (ev c) nx).map fun q => (q.1, (nx, q.2) :: H, nx + 1)
  | .buildSlice t len parts => (buildSliceV P t len (parts.toList.map fun p => (p.1, ev p.2)) nx).map fun q => (q.1, (nx, q.2) :: H, nx + 1)
  | .build t parts => (buildV P t (parts.toList.map fun p => (p.1, ev p.2))).map fun r => (r, H, nx)
  | .box t x => (cellsP (ev x)).map fun ps => (.ptr nx 0, (nx, .cells t ps) :: H, nx + 1)
  | .alloc t => (zeroCellsOf P t).map fun zc => (.ptr nx 0, (nx, .cells t (zc.map fun x => .t (.v x))) :: H, nx + 1)
  | .call ⟨.builtin .append, ⟨[x, y]⟩, ⟨[t, t']⟩⟩ => if t = t' then appendV P H nx t (ev x) (ev y) else none
  | o => (lightV P H ev o).map fun r => (r, H, nx)

theorem aop_opV {r : PV} {H' : Heap} {nx' : Nat} (h : opV P s.H s.nx (s.ev G) o.op = some (r, H', nx')) : AOp P G B o s r H' nx' := by
  unfold opV at h
  split at h
  · rename_i t x y ho
    cases hs : storeV P s.H t (s.ev G x) (s.ev G y) with
    | none => rw [hs] at h; cases h
    | some H1 =>
      rw [hs] at h
      injection h with h; injection h with h1 h2; injection h2 with h2 h3; subst h1; subst h2; subst h3
      exact aop_store ho hs
  · rename_i t x y ho
    cases hs : makeV P t (s.ev G x) (s.ev G y) s.nx with
    | none => rw [hs] at h; cases h
    | some q =>
      rw [hs] at h
      injection h with h; injection h with h1 h2; injection h2 with h2 h3; subst h1; subst h2; subst h3
      exact aop_make ho hs
  · rename_i t len parts ho
    cases hs : buildSliceV P t len (parts.toList.map fun p => (p.1, s.ev G p.2)) s.nx with
    | none => rw [hs] at h; cases h
    | some q =>
      rw [hs] at h
      injection h with h; injection h with h1 h2; injection h2 with h2 h3; subst h1; subst h2; subst h3
      exact aop_buildSlice ho hs
  · rename_i t parts ho
    cases hs : buildV P t (parts.toList.map fun p => (p.1, s.ev G p.2)) with
    | none => rw [hs] at h; cases h
    | some q =>
      rw [hs] at h
      injection h with h; injection h with h1 h2; injection h2 with h2 h3; subst h1; subst h2; subst h3
      exact aop_build ho hs
  · rename_i t x ho
    cases hs : cellsP (s.ev G x) with
    | none => rw [hs] at h; cases h
    | some q =>
      rw [hs] at h
      injection h with h; injection h with h1 h2; injection h2 with h2 h3; subst h1; subst h2; subst h3
      exact aop_box ho hs
  · rename_i t ho
    cases hs : zeroCellsOf P t with
    | none => rw [hs] at h; cases h
    | some q =>
      rw [hs] at h
      injection h with h; injection h with h1 h2; injection h2 with h2 h3; subst h1; subst h2; subst h3
      exact aop_alloc ho hs
  · rename_i x y t t' ho
    split at h
    · rename_i e
      subst e
      exact aop_append ho h
    · cases h
  · cases hs : lightV P s.H (s.ev G) o.op with
    | none => rw [hs] at h; cases h
    | some q =>
      rw [hs] at h
      injection h with h; injection h with h1 h2; injection h2 with h2 h3; subst h1; subst h2; subst h3
      exact aop_lightV hs
end

/-! Contracts. -/

def IsFn (P : Program) (f : FuncId) : Prop := ∃ fn c, P.funcs[f]? = some fn ∧ fn.body = some c ∧ (fn.name == "runtime.NumGoroutine") = false

theorem IsFn.run {P : Program} {f : FuncId} (h : IsFn P f) (args : Array Value) (w : World) : (callFunc f args).run P w = .ok (.enter f args) w := by
  obtain ⟨fn, c, hf, hb, hn⟩ := h
  have hn' : ¬ fn.name = "runtime.NumGoroutine" := by simpa using hn
  simp [callFunc, hf, hn', hb]

/-- Called with trees, the function returns a tree r with R r, and changes nothing that was there. -/
def CallT (P : Program) (G : Globs) (f : FuncId) (args : List T) (R : T → Prop) : Prop :=
  IsFn P f ∧ ∀ (I : Nat → Prop) (w : World) (us : Array Value), (∀ b, I b → b < w.heap.size) → (∀ g cs, look G g = some cs → I g ∧ RepG I w cs g) → RepL I w args us.toList →
    Calls P f us w fun e w' => ∃ v r I', e = .returned v ∧ R r ∧ RepT I' w' r v ∧ Outer w w' ∧ w.heap.size ≤ w'.heap.size ∧ (∀ g, g < w.heap.size → w'.heap[g]? = w.heap[g]?) ∧
      (∀ g, I g → I' g) ∧ (∀ g, I' g → I g ∨ w.heap.size ≤ g) ∧ (∀ g, I' g → g < w'.heap.size)

theorem CallT.mono {P : Program} {G : Globs} {f : FuncId} {args : List T} {R R' : T → Prop} (h : CallT P G f args R) (hr : ∀ r, R r → R' r) : CallT P G f args R' :=
  ⟨h.1, fun I w us h1 h2 h3 => (h.2 I w us h1 h2 h3).mono fun _ _ ⟨v, r, I', he, hR, rest⟩ => ⟨v, r, I', he, hr r hR, rest⟩⟩

mutual
/-- A value as a tree, where its rows are taken as they stand; the rows' numbers. -/
@[simp] def toT (H : Heap) : PV → Option (T × List Nat)
  | .t x => some (x, [])
  | .row b o n z => match look H b with
    | some (.cells _ cs) => if o + n * z ≤ cs.length then (allT ((cs.drop o).take (n * z))).map fun ts => (.sl n ts, [b]) else none
    | _ => none
  | .ag cs => (toTs H cs).map fun q => (.ag q.1, q.2)
  | .tu cs => (toTs H cs).map fun q => (.tu q.1, q.2)
  | _ => none
@[simp] def toTs (H : Heap) : List PV → Option (List T × List Nat)
  | [] => some ([], [])
  | p :: ps => match toT H p, toTs H ps with
    | some (x, F), some (xs, F') => some (x :: xs, F ++ F')
    | _, _ => none
end

/-- The blocks of the rows F. -/
def Lent (L : Loc) (H : Heap) (F : List Nat) (g : Nat) : Prop := ∃ b ∈ F, (∃ r, look H b = some r) ∧ L.μ b = g

section
variable {P : Program} {G : Globs} {L : Loc} {H : Heap} {w : World}

theorem RepC.ofRow {I : Nat → Prop} {g : Nat} {ts : List T} : ∀ {o : Nat} {xs : List Value}, (∀ (j : Nat) x, xs[j]? = some x → w.cell? ⟨g, o + j, none⟩ = some x ∧ x.oneCell' = true) → RepL I w ts xs → RepC I w ts g o := by
  intro o xs hc hr
  refine RepC.mk fun k c hk => ?_
  obtain ⟨x, hx, h⟩ := hr.at_ k hk
  exact ⟨x, (hc k x hx).1, (hc k x hx).2, h⟩

theorem keeps_more {I I' : Nat → Prop} (h : ∀ g, I g → I' g) : Keeps I I' w w := fun b hb => ⟨h b hb, rfl⟩

mutual
theorem toT_rep (hok : HeapOK P G L H w) : ∀ (p : PV) {x : T} {F : List Nat} {u : Value}, toT H p = some (x, F) → RepV P L w p u → ∀ F', (∀ b ∈ F, b ∈ F') → RepT (fun g => L.I g ∨ Lent L H F' g) w x u
  | .t x, y, F, u, h, hr, F', _ => by
    simp only [toT, Option.some.injEq, Prod.mk.injEq] at h
    obtain ⟨rfl, rfl⟩ := h
    simp only [RepV] at hr
    exact RepT.keep (keeps_more fun g hg => .inl hg) _ hr
  | .row b o n z, y, F, u, h, hr, F', hF => by
    simp only [toT] at h
    split at h
    · rename_i ty cs hl
      split at h
      · rename_i hb
        cases ha : allT ((cs.drop o).take (n * z)) with
        | none => rw [ha] at h; cases h
        | some ts =>
          rw [ha] at h
          injection h with h; injection h with h1 h2; subst h1; subst h2
          simp only [RepV] at hr
          obtain ⟨hb', hμ, c, rfl, hc, _⟩ := hr
          obtain ⟨xs, hxl, hcell, h1, hrep⟩ := row_values (hok.rep b _ hl)
          have hseg := hrep.drop_take o (n * z)
          rw [allT_map ha] at hseg
          have hT := hseg.toT
          simp only [RepT]
          refine ⟨⟨L.μ b, o, none⟩, c, rfl, hc, .inr ⟨rfl, .inr ⟨b, hF b (by simp), ⟨_, hl⟩, rfl⟩, ?_⟩⟩
          have hT' := RepL.keep (keeps_more (I := L.I) (I' := fun g => L.I g ∨ Lent L H F' g) (w := w) fun g hg => .inl hg) ts hT
          refine RepC.ofRow (xs := (xs.drop o).take (n * z)) (fun j x hx => ?_) hT'
          rw [List.getElem?_take] at hx
          split at hx
          · rw [List.getElem?_drop] at hx
            exact ⟨hcell _ x hx, h1 x (List.mem_of_getElem? hx)⟩
          · cases hx
      · cases h
    · cases h
  | .ag cs, y, F, u, h, hr, F', hF => by
    simp only [toT] at h
    cases hq : toTs H cs with
    | none => rw [hq] at h; cases h
    | some q =>
      rw [hq] at h
      injection h with h; injection h with h1 h2; subst h1; subst h2
      simp only [RepV] at hr
      obtain ⟨us, rfl, h1, hl⟩ := hr
      simp only [RepT]
      exact ⟨us, rfl, h1, toTs_rep hok cs hq hl F' hF⟩
  | .tu cs, y, F, u, h, hr, F', hF => by
    simp only [toT] at h
    cases hq : toTs H cs with
    | none => rw [hq] at h; cases h
    | some q =>
      rw [hq] at h
      injection h with h; injection h with h1 h2; subst h1; subst h2
      simp only [RepV] at hr
      obtain ⟨us, rfl, hl⟩ := hr
      simp only [RepT]
      exact ⟨us, rfl, toTs_rep hok cs hq hl F' hF⟩
  | .ptr _ _, _, _, _, h, _, _, _ => by simp [toT] at h
  | .fn _ _ _, _, _, _, h, _, _, _ => by simp [toT] at h
  | .ic _ _, _, _, _, h, _, _, _ => by simp [toT] at h
  | .mp _, _, _, _, h, _, _, _ => by simp [toT] at h
  | .dead, _, _, _, h, _, _, _ => by simp [toT] at h
theorem toTs_rep (hok : HeapOK P G L H w) : ∀ (ps : List PV) {q : List T × List Nat} {us : List Value}, toTs H ps = some q → RepVL P L w ps us → ∀ F', (∀ b ∈ q.2, b ∈ F') → RepL (fun g => L.I g ∨ Lent L H F' g) w q.1 us
  | [], q, us, h, hr, F', _ => by
    simp only [toTs, Option.some.injEq] at h
    subst h
    simp only [RepVL] at hr
    simp only [RepL]
    exact hr
  | p :: ps, q, us, h, hr, F', hF => by
    simp only [toTs] at h
    split at h
    · rename_i x F xs F2 hx hxs
      injection h with h; subst h
      simp only [RepVL] at hr
      obtain ⟨u, us', rfl, h1, h2⟩ := hr
      simp only [RepL]
      exact ⟨u, us', rfl, toT_rep hok p hx h1 F' (fun b hb => hF b (by simp [hb])), toTs_rep hok ps hxs h2 F' (fun b hb => hF b (by simp [hb]))⟩
    · cases h
end

/-- H without F. -/
@[simp] def remAll (H : Heap) (F : List Nat) : Heap := F.foldl rem H

theorem look_remAll : ∀ (F : List Nat) (H : Heap) (k : Nat) (r : Row), look (remAll H F) k = some r → look H k = some r ∧ k ∉ F
  | [], H, k, r, h => ⟨h, by simp⟩
  | b :: F, H, k, r, h => by
    have h' : look (remAll (rem H b) F) k = some r := h
    obtain ⟨h1, h2⟩ := look_remAll F (rem H b) k r h'
    rw [look_rem] at h1
    split at h1
    · cases h1
    · rename_i hne
      exact ⟨h1, by simp [hne, h2]⟩

/-- No address inside. -/
def plainT : T → Bool
  | .v _ => true
  | .tu [.v _, .v _] => true
  | _ => false

theorem plainT_rep {I I' : Nat → Prop} {w w' : World} {x : T} {u : Value} (h : plainT x = true) (hr : RepT I w x u) : RepT I' w' x u := by
  cases x with
  | v x => simpa only [RepT] using hr
  | tu cs =>
    cases cs with
    | nil => simp [plainT] at h
    | cons a cs => cases cs with
      | nil => cases a <;> simp [plainT] at h
      | cons b cs => cases cs with
        | nil => cases a <;> cases b <;> first | (simp [plainT] at h; done) | (simp only [RepT, RepL] at hr ⊢; exact hr)
        | cons c cs => cases a <;> simp [plainT] at h
  | _ => simp [plainT] at h

/-- A call of a function by its contract: its arguments are trees, or rows that are lent (where the result bears no address) or never written again. -/
theorem aop_callT {B : Nat} {s : AState} {o : Oper} {f : FuncId} {args : Array Operand} {ts : Array TypeId} {targs : List T} {F : List Nat} {r : T} (ho : o.op = .call ⟨.value (.func f), args, ts⟩)
    (hT : toTs s.H (args.toList.map (s.ev G)) = some (targs, F)) (hc : CallT P G f targs (· = r)) :
    AOp P G B o s (.t r) (if plainT r then s.H else remAll s.H F) s.nx := fun L a w hi => by
  have hargs : RepVL P L w (args.toList.map (s.ev G)) (args.map a.eval).toList := by
    refine RepVL.mk (by simp) fun k c x hk hx => ?_
    simp only [List.getElem?_map, Array.toList_map] at hk hx
    cases ha : args.toList[k]? with
    | none => rw [ha] at hk; cases hk
    | some q =>
      rw [ha] at hk hx
      injection hk with hk; injection hx with hx; subst hk; subst hx
      exact hi.ev q
  have hrep := toTs_rep hi.heap _ hT hargs F (fun b hb => hb)
  unfold Oper.wp
  have hrun : (execOp a.eval o).run P w = .ok (.enter f (args.map a.eval)) w := by
    simp [execOp, ho, resolve, Act.eval, Deferred.ofValue, invoke, hc.1.run]
  rw [hrun, Oper.upon_enter]
  have hlt : ∀ b, (L.I b ∨ Lent L s.H F b) → b < w.heap.size := by
    rintro b (h | ⟨k, _, ⟨r, hr⟩, rfl⟩)
    · exact hi.heap.lt b h
    · exact (hi.heap.rep k r hr).lt
  refine (hc.2 _ w _ hlt (fun g cs hg => ⟨.inl (hi.heap.glob g cs hg).1, RepG.keep (keeps_more fun g hg => .inl hg) (hi.heap.glob g cs hg).1 (hi.heap.glob g cs hg).2⟩) hrep).mono ?_
  rintro e w' ⟨v, r', I', rfl, rfl, hv, hout, hsz, hsame, hmore, hnew, hltI⟩
  have hshape : Shapes w w' := fun g hg arr ty fz he => ⟨arr, fz, by rw [← hsame g hg]; exact he, rfl⟩
  by_cases hp : plainT r' = true
  · rw [if_pos hp]
    have hm : Mono L w L w' := ⟨fun b hb => ⟨hb, hsame b (hi.heap.lt b hb)⟩, Nat.le_refl _, fun _ _ => rfl, hsz, hshape⟩
    refine ⟨v, L, rfl, by simp only [RepV]; exact plainT_rep hp hv, ?_, hi.nx, hm, ?_⟩
    · exact ⟨fun b hb => Nat.lt_of_lt_of_le (hi.heap.lt b hb) hsz, fun b r hb => (hi.heap.rep b r hb).keep hm (hsame _ (hi.heap.rep b r hb).lt), hi.heap.apart, hi.heap.inj, hi.heap.nx, glob_keep hi.heap hm.keeps⟩
    · exact ⟨hsz, fun g hg _ => hsame g hg, fun _ h => h, fun _ h => .inl h, fun _ h => .inr h, hshape, hout⟩
  · rw [if_neg hp]
    have hm : Mono L w { L with I := I' } w' := ⟨fun b hb => ⟨hmore b (.inl hb), hsame b (hi.heap.lt b hb)⟩, Nat.le_refl _, fun _ _ => rfl, hsz, hshape⟩
    refine ⟨v, { L with I := I' }, rfl, by simp only [RepV]; exact hv, ?_, hi.nx, hm, ?_⟩
    · refine ⟨hltI, fun b r hb => ?_, fun b r hb hI => ?_, fun b b' r r' hb hb' => ?_, fun b r hb => ?_, glob_keep hi.heap hm.keeps⟩
      · have hb' := (look_remAll F s.H b r hb).1
        exact (hi.heap.rep b r hb').keep hm (hsame _ (hi.heap.rep b r hb').lt)
      · obtain ⟨hb', hnF⟩ := look_remAll F s.H b r hb
        rcases hnew _ hI with (h | ⟨k, hk, ⟨r2, hr2⟩, e⟩) | h
        · exact hi.heap.apart b r hb' h
        · exact hnF ((hi.heap.inj k b r2 r hr2 hb' e) ▸ hk)
        · have := (hi.heap.rep b r hb').lt
          exact absurd this (by have h' : w.heap.size ≤ L.μ b := h; omega)
      · exact hi.heap.inj b b' r r' (look_remAll F s.H b r hb).1 (look_remAll F s.H b' r' hb').1
      · exact hi.heap.nx b r (look_remAll F s.H b r hb).1
    · refine ⟨hsz, fun g hg _ => hsame g hg, fun g h => hmore g (.inl h), fun g h => ?_, fun g ⟨k, r, hk, e⟩ => .inr ⟨k, r, (look_remAll F s.H k r hk).1, e⟩, hshape, hout⟩
      rcases hnew g h with (h | ⟨k, _, ⟨r2, hr2⟩, e⟩) | h
      · exact .inl h
      · exact .inr (.inr ⟨k, r2, hr2, e⟩)
      · exact .inr (.inl h)

end

/-! A function's body. -/

/-- The results of a function, where its body ends. -/
def resultsV (P : Program) (s : AState) : List ResultVar → Option (List PV)
  | [] => some []
  | .tmp t :: r => match look s.env t, resultsV P s r with
    | some p, some ps => some (p :: ps)
    | _, _ => none
  | .cell a t :: r => match look s.env a, resultsV P s r with
    | some (.ptr b o), some ps => (loadV P s.H t (.ptr b o)).map (· :: ps)
    | _, _ => none

def resultV (P : Program) (fn : Func) (s : AState) : Option PV :=
  match resultsV P s fn.results.toList with
  | some [p] => some p
  | some ps => some (match allT ps with | some ts => .t (.tu ts) | none => .tu ps)
  | none => none

section
variable {P : Program} {G : Globs} {B : Nat} {L : Loc} {s : AState} {a : Act} {w : World}

def resSem (tmps : Array Value) : ResultVar → Sem Value
  | .tmp t => pure (tmps.getD t undef)
  | .cell a t => do loadVar t (← asAddr (tmps.getD a undef))

theorem results_eq (fn : Func) (tmps : Array Value) : results fn tmps = (do let vs ← fn.results.mapM (resSem tmps); pure (if h : vs.size = 1 then vs[0] else .tuple vs)) := by
  unfold results
  congr 2

theorem resultsV_run (hi : Interp P G B L s a w) : ∀ (rs : List ResultVar) {ps : List PV}, resultsV P s rs = some ps →
    ∃ vs : List Value, (rs.mapM (resSem a.tmps)).run P w = .ok vs w ∧ RepVL P L w ps vs
  | [], ps, h => by
    simp only [resultsV, Option.some.injEq] at h
    subst h
    exact ⟨[], by simp, by simp only [RepVL]⟩
  | .tmp t :: r, ps, h => by
    simp only [resultsV] at h
    split at h
    · rename_i p ps' hl hr
      injection h with h; subst h
      obtain ⟨vs, hrun, hrep⟩ := resultsV_run hi r hr
      refine ⟨a.tmps.getD t undef :: vs, ?_, by simp only [RepVL]; exact ⟨_, _, rfl, hi.env t p hl, hrep⟩⟩
      rw [List.mapM_cons]
      simp only [resSem, Sem.run_bind, Sem.run_pure, Result.andThen_ok, hrun]
    · cases h
  | .cell x t :: r, ps, h => by
    simp only [resultsV] at h
    split at h
    · rename_i b o ps' hl hr
      cases hv : loadV P s.H t (.ptr b o) with
      | none => rw [hv] at h; cases h
      | some q =>
        rw [hv] at h
        injection h with h; subst h
        obtain ⟨vs, hrun, hrep⟩ := resultsV_run hi r hr
        have hx := hi.env x _ hl
        obtain ⟨v, hload, hvr⟩ := loadV_run hi.heap hv hx
        have hx' := hx
        simp only [RepV] at hx'
        refine ⟨v :: vs, ?_, by simp only [RepVL]; exact ⟨_, _, rfl, hvr, hrep⟩⟩
        rw [List.mapM_cons]
        have hload' : (resSem a.tmps (.cell x t)).run P w = .ok v w := by
          rw [hx'.2] at hload
          simp only [resSem, hx'.2, asAddr]
          simpa [Instr.loadAt, Instr.sureAddr] using hload
        simp only [Sem.run_bind, hload', Result.andThen_ok, hrun, Sem.run_pure]
    · cases h

theorem resultV_run {fn : Func} {p : PV} (hi : Interp P G B L s a w) (h : resultV P fn s = some p) : ∃ v, (results fn a.tmps).run P w = .ok v w ∧ RepV P L w p v := by
  unfold resultV at h
  have key : ∀ {ps}, resultsV P s fn.results.toList = some ps → ∃ vs : Array Value, (results fn a.tmps).run P w = .ok (if h : vs.size = 1 then vs[0] else .tuple vs) w ∧ RepVL P L w ps vs.toList := by
    intro ps hps
    obtain ⟨vs, hrun, hrep⟩ := resultsV_run hi _ hps
    refine ⟨vs.toArray, ?_, by simpa using hrep⟩
    rw [results_eq, Array.mapM_eq_mapM_toList]
    simp [hrun]
  split at h
  · rename_i q hq
    injection h with h; subst h
    obtain ⟨vs, hrun, hrep⟩ := key hq
    simp only [RepVL] at hrep
    obtain ⟨x, xs, e, hx, rfl⟩ := hrep
    have hvs : vs = #[x] := by cases vs; simpa using e
    subst hvs
    exact ⟨x, by simpa using hrun, hx⟩
  · rename_i ps hne hq
    injection h with h; subst h
    obtain ⟨vs, hrun, hrep⟩ := key hq
    have hl := hrep.length
    have h1 : ¬ vs.size = 1 := by
      intro h1
      have : ps.length = 1 := by rw [← hl]; simpa using h1
      match ps, this with
      | [q], _ => exact hne q rfl
    rw [dif_neg h1] at hrun
    refine ⟨.tuple vs, hrun, ?_⟩
    cases ha : allT ps with
    | none => simp only [RepV]; exact ⟨vs, rfl, hrep⟩
    | some ts =>
      have := allT_map ha
      subst this
      simp only [RepV, RepT]
      exact ⟨vs, rfl, hrep.toT⟩
  · cases h

/-- Where a body may end. -/
def Ends (P : Program) (G : Globs) (fn : Func) (R : T → Prop) : Exit → AState → Prop
  | .normal, s => ∃ s2 r, Sub P G 0 s s2 ∧ resultV P fn s2 = some (.t r) ∧ R r
  | .ret, s => ∃ s2 r, Sub P G 0 s s2 ∧ resultV P fn s2 = some (.t r) ∧ R r
  | _, _ => False

/-- The state in which a body begins. -/
def startS (fn : Func) (args : List PV) : AState :=
  { env := args.zipIdx.map (fun p => (p.2, p.1)), H := [], nx := 0, n := args.length + (fn.ntmps - args.length) }

theorem look_zipIdx : ∀ (args : List PV) (k j : Nat) (p : PV), look ((args.zipIdx j).map (fun q => (q.2, q.1))) k = some p → j ≤ k ∧ args[k - j]? = some p
  | [], k, j, p, h => by simp [look] at h
  | x :: args, k, j, p, h => by
    simp only [List.zipIdx_cons, List.map_cons, look] at h
    by_cases e : j = k
    · rw [if_pos e] at h; subst e; simpa using h
    · rw [if_neg e] at h
      obtain ⟨h1, h2⟩ := look_zipIdx args k (j + 1) p h
      refine ⟨by omega, ?_⟩
      rw [show k - j = (k - (j + 1)) + 1 by omega]
      simpa using h2

theorem callT_of_body {f : FuncId} {fn : Func} {c : Code} {args : List T} {R : T → Prop} (hf : P.funcs[f]? = some fn) (hb : fn.body = some c) (hn : (fn.name == "runtime.NumGoroutine") = false)
    (h : ACode P G 0 c (Ends P G fn R) (startS fn (args.map .t))) : CallT P G f args R := by
  refine ⟨⟨fn, c, hf, hb, hn⟩, fun I w us hlt hglob hargs => calls_of_wp hf hb ?_⟩
  have hlen : us.size = args.length := by simpa using hargs.length
  let L : Loc := ⟨I, fun _ => 0, 0⟩
  have hok : HeapOK P G L [] w := ⟨hlt, fun b r h => by simp [look] at h, fun b r h => by simp [look] at h, fun b b' r r' h => by simp [look] at h, fun b r h => by simp [look] at h, hglob⟩
  have hi : Interp P G 0 L (startS fn (args.map .t)) { tmps := us ++ Array.replicate (fn.ntmps - us.size) undef, defers := [] } w := by
    refine ⟨hok, rfl, Nat.zero_le _, by simp [startS, hlen], rfl, fun k p hl => ?_⟩
    obtain ⟨_, hk⟩ := look_zipIdx _ k 0 p hl
    simp only [Nat.sub_zero] at hk
    have hrep := RepVL.ofT (P := P) (L := L) hargs
    obtain ⟨x, hx, hr⟩ := hrep.at_ k hk
    have hx' : us[k]? = some x := by simpa using hx
    have hk' : k < us.size := (Array.getElem?_eq_some_iff.1 hx').1
    rw [Array.getD_eq_getD_getElem?, Array.getElem?_append_left hk', hx']
    exact hr
  refine wp_mono (h L _ w hi) fun e a' w' ⟨s1, L1, q, hi1, hx, _⟩ => ?_
  have fin : (∃ s2 r, Sub P G 0 s1 s2 ∧ resultV P fn s2 = some (.t r) ∧ R r) → a'.defers = [] ∧ ∃ v, (results fn a'.tmps).run P w' = .ok v w' ∧
      ∃ v' r I', Ending.returned v = .returned v' ∧ R r ∧ RepT I' w' r v' ∧ Outer w w' ∧ w.heap.size ≤ w'.heap.size ∧ (∀ g, g < w.heap.size → w'.heap[g]? = w.heap[g]?) ∧
      (∀ g, I g → I' g) ∧ (∀ g, I' g → I g ∨ w.heap.size ≤ g) ∧ (∀ g, I' g → g < w'.heap.size) := by
    rintro ⟨s2, r, hs, hres, hR⟩
    obtain ⟨L2, hi2, hx2, _⟩ := hs L1 a' w' hi1
    obtain ⟨v, hrun, hv⟩ := resultV_run hi2 hres
    have hxx := hx.trans hx2
    have nomine : ∀ g, ¬ Mine L [] g := fun g ⟨b, r, h, _⟩ => by simp [look] at h
    refine ⟨hi2.defers, v, hrun, v, r, L2.I, rfl, hR, by simpa only [RepV] using hv, hxx.outer, hxx.size, fun g hg => hxx.same g hg (nomine g), hxx.more, fun g hg => ?_, hi2.heap.lt⟩
    rcases hxx.new g hg with h | h | h
    · exact .inl h
    · exact .inr h
    · exact absurd h (nomine g)
  cases e with
  | normal => exact fin q
  | ret => exact fin q
  | exit i => exact q.elim
  | goto l => exact q.elim
  | panic ch => exact q.elim
  | outgrown => exact q.elim
end
end Go.Abs

namespace Go.Abs
set_option linter.unusedSimpArgs false
set_option linter.unusedVariables false
open Go

/-- Called with ps over the rows H, the function returns r, and the rows are H'. -/
def CallP (P : Program) (G : Globs) (f : FuncId) (ps : List PV) (H : Heap) (nx : Nat) (r : PV) (H' : Heap) (nx' : Nat) : Prop :=
  IsFn P f ∧ ∀ (L : Loc) (w : World) (us : Array Value), HeapOK P G L H w → L.nx = nx → RepVL P L w ps us.toList →
    Calls P f us w fun e w' => ∃ v L', e = .returned v ∧ RepV P L' w' r v ∧ HeapOK P G L' H' w' ∧ L'.nx = nx' ∧ Mono L w L' w' ∧ Ext L H w L' H' w'

theorem RepVL.append {P : Program} {L : Loc} {w : World} : ∀ {ps qs : List PV} {us vs : List Value}, RepVL P L w ps us → RepVL P L w qs vs → RepVL P L w (ps ++ qs) (us ++ vs)
  | [], qs, us, vs, h, h' => by simp only [RepVL] at h; subst h; simpa using h'
  | p :: ps, qs, us, vs, h, h' => by
    simp only [RepVL] at h
    obtain ⟨x, xs, rfl, hx, hxs⟩ := h
    simp only [List.cons_append, RepVL]
    exact ⟨x, xs ++ vs, rfl, hx, RepVL.append hxs h'⟩

section
variable {P : Program} {G : Globs} {B : Nat} {s : AState} {o : Oper} {f : FuncId} {r : PV} {H' : Heap} {nx' : Nat}

theorem rep_args {L : Loc} {a : Act} {w : World} (hi : Interp P G B L s a w) (args : Array Operand) : RepVL P L w (args.toList.map (s.ev G)) (args.map a.eval).toList := by
  refine RepVL.mk (by simp) fun k c x hk hx => ?_
  simp only [List.getElem?_map, Array.toList_map] at hk hx
  cases ha : args.toList[k]? with
  | none => rw [ha] at hk; cases hk
  | some q =>
    rw [ha] at hk hx
    injection hk with hk; injection hx with hx; subst hk; subst hx
    exact hi.ev q

theorem aop_enter {ps : List PV} (hc : CallP P G f ps s.H s.nx r H' nx')
    (hrun : ∀ L a w, Interp P G B L s a w → ∃ us : Array Value, (execOp a.eval o).run P w = .ok (.enter f us) w ∧ RepVL P L w ps us.toList) : AOp P G B o s r H' nx' := fun L a w hi => by
  obtain ⟨us, hr, hrep⟩ := hrun L a w hi
  unfold Oper.wp
  rw [hr, Oper.upon_enter]
  refine (hc.2 L w us hi.heap hi.nx hrep).mono ?_
  rintro e w' ⟨v, L', rfl, hv, hok, hnx, hm, hx⟩
  exact ⟨v, L', rfl, hv, hok, hnx, hm, hx⟩

/-- A call of a function by its name. -/
theorem aop_callP {args : Array Operand} {ts : Array TypeId} (ho : o.op = .call ⟨.value (.func f), args, ts⟩) (hc : CallP P G f (args.toList.map (s.ev G)) s.H s.nx r H' nx') : AOp P G B o s r H' nx' :=
  aop_enter hc fun L a w hi => ⟨args.map a.eval, by simp [execOp, ho, resolve, Act.eval, Deferred.ofValue, invoke, hc.1.run], rep_args hi args⟩

/-- A call of a function value that bears nothing. -/
theorem aop_callV {x : Operand} {args : Array Operand} {ts : Array TypeId} (ho : o.op = .call ⟨.value x, args, ts⟩) (hx : s.ev G x = .t (.v (.func (.func f) #[] #[]))) (hc : CallP P G f (args.toList.map (s.ev G)) s.H s.nx r H' nx') : AOp P G B o s r H' nx' :=
  aop_enter hc fun L a w hi => by
    have := hi.ev x
    rw [hx] at this
    simp only [RepV, RepT] at this
    exact ⟨args.map a.eval, by simp [execOp, ho, resolve, this, Deferred.ofValue, invoke, hc.1.run], rep_args hi args⟩

/-- A call of a function value that bears values. -/
theorem aop_callF {x : Operand} {args : Array Operand} {ts : Array TypeId} {first cap : List PV} (ho : o.op = .call ⟨.value x, args, ts⟩) (hx : s.ev G x = .fn (.func f) first cap)
    (hc : CallP P G f (first ++ args.toList.map (s.ev G) ++ cap) s.H s.nx r H' nx') : AOp P G B o s r H' nx' :=
  aop_enter hc fun L a w hi => by
    have := hi.ev x
    rw [hx] at this
    simp only [RepV] at this
    obtain ⟨us, vs, e, h1, h2⟩ := this
    refine ⟨us ++ args.map a.eval ++ vs, by simp [execOp, ho, resolve, e, Deferred.ofValue, invoke, hc.1.run], ?_⟩
    have := (h1.append (rep_args hi args)).append h2
    simpa using this
end

/-- A contract over trees is one over rows. -/
theorem CallT.callP {P : Program} {G : Globs} {f : FuncId} {H : Heap} {nx : Nat} {ps : List PV} {targs : List T} {F : List Nat} {r : T} (hT : toTs H ps = some (targs, F)) (hc : CallT P G f targs (· = r)) :
    CallP P G f ps H nx (.t r) (if plainT r then H else remAll H F) nx := by
  refine ⟨hc.1, fun L w us hheap hnx hargs => ?_⟩
  have hrep := toTs_rep hheap _ hT hargs F (fun b hb => hb)
  have hlt : ∀ b, (L.I b ∨ Lent L H F b) → b < w.heap.size := by
    rintro b (h | ⟨k, _, ⟨r, hr⟩, rfl⟩)
    · exact hheap.lt b h
    · exact (hheap.rep k r hr).lt
  refine (hc.2 _ w us hlt (fun g cs hg => ⟨.inl (hheap.glob g cs hg).1, RepG.keep (keeps_more fun g hg => .inl hg) (hheap.glob g cs hg).1 (hheap.glob g cs hg).2⟩) hrep).mono ?_
  rintro e w' ⟨v, r', I', rfl, rfl, hv, hout, hsz, hsame, hmore, hnew, hltI⟩
  have hshape : Shapes w w' := fun g hg arr ty fz he => ⟨arr, fz, by rw [← hsame g hg]; exact he, rfl⟩
  by_cases hp : plainT r' = true
  · rw [if_pos hp]
    have hm : Mono L w L w' := ⟨fun b hb => ⟨hb, hsame b (hheap.lt b hb)⟩, Nat.le_refl _, fun _ _ => rfl, hsz, hshape⟩
    refine ⟨v, L, rfl, by simp only [RepV]; exact plainT_rep hp hv, ?_, hnx, hm, ?_⟩
    · exact ⟨fun b hb => Nat.lt_of_lt_of_le (hheap.lt b hb) hsz, fun b r hb => (hheap.rep b r hb).keep hm (hsame _ (hheap.rep b r hb).lt), hheap.apart, hheap.inj, hheap.nx, glob_keep hheap hm.keeps⟩
    · exact ⟨hsz, fun g hg _ => hsame g hg, fun _ h => h, fun _ h => .inl h, fun _ h => .inr h, hshape, hout⟩
  · rw [if_neg hp]
    have hm : Mono L w { L with I := I' } w' := ⟨fun b hb => ⟨hmore b (.inl hb), hsame b (hheap.lt b hb)⟩, Nat.le_refl _, fun _ _ => rfl, hsz, hshape⟩
    refine ⟨v, { L with I := I' }, rfl, by simp only [RepV]; exact hv, ?_, hnx, hm, ?_⟩
    · refine ⟨hltI, fun b r hb => ?_, fun b r hb hI => ?_, fun b b' r r' hb hb' => ?_, fun b r hb => ?_, glob_keep hheap hm.keeps⟩
      · have hb' := (look_remAll F H b r hb).1
        exact (hheap.rep b r hb').keep hm (hsame _ (hheap.rep b r hb').lt)
      · obtain ⟨hb', hnF⟩ := look_remAll F H b r hb
        rcases hnew _ hI with (h | ⟨k, hk, ⟨r2, hr2⟩, e⟩) | h
        · exact hheap.apart b r hb' h
        · exact hnF ((hheap.inj k b r2 r hr2 hb' e) ▸ hk)
        · have := (hheap.rep b r hb').lt
          exact absurd this (by have h' : w.heap.size ≤ L.μ b := h; omega)
      · exact hheap.inj b b' r r' (look_remAll F H b r hb).1 (look_remAll F H b' r' hb').1
      · exact hheap.nx b r (look_remAll F H b r hb).1
    · refine ⟨hsz, fun g hg _ => hsame g hg, fun g h => hmore g (.inl h), fun g h => ?_, fun g ⟨k, r, hk, e⟩ => .inr ⟨k, r, (look_remAll F H k r hk).1, e⟩, hshape, hout⟩
      rcases hnew g h with (h | ⟨k, _, ⟨r2, hr2⟩, e⟩) | h
      · exact .inl h
      · exact .inr (.inr ⟨k, r2, hr2, e⟩)
      · exact .inr (.inl h)

end Go.Abs

namespace Go.Abs
set_option linter.unusedSimpArgs false
set_option linter.unusedVariables false
open Go

/-- What called functions return: over trees, and over rows. -/
structure Oracle where
  t : FuncId → List T → Option T
  h : FuncId → List PV → Heap → Nat → Option (PV × Heap × Nat)

instance : CoeFun Oracle (fun _ => FuncId → List T → Option T) := ⟨Oracle.t⟩

structure Oracle.Sound (P : Program) (G : Globs) (Φ : Oracle) : Prop where
  t : ∀ f args r, Φ.t f args = some r → CallT P G f args (· = r)
  h : ∀ f ps H nx r H' nx', Φ.h f ps H nx = some (r, H', nx') → CallP P G f ps H nx r H' nx'
  fresh : ∀ f ps H nx r H' nx', Φ.h f ps H nx = some (r, H', nx') → (∀ b x, look H b = some x → b < nx) → ∀ b x, look H' b = some x → b < nx'

/-- Does a type bear what may refer to rows? -/
def refT (P : Program) (t : TypeId) : Bool :=
  match P.underlying t with
  | some (.pointer _) | some (.func _ _ _) | some (.map _ _) => true
  | _ => false

/-- The functions whose slices their callers write to: their results stay rows. -/
def hot : List Nat := []

/-- A call of a function value. -/
def callvM (Φ : Oracle) (H : Heap) (nx : Nat) (fv : PV) (ps : List PV) : Option (PV × Heap × Nat) :=
  match fv with
  | .t (.v (.func (.func f) ⟨[]⟩ ⟨[]⟩)) => Φ.h f ps H nx
  | .fn (.func f) first cap => Φ.h f (first ++ ps ++ cap) H nx
  | _ => none

/-- An operation's value, and the rows behind it. -/
def valV (P : Program) (G : Globs) (Φ : Oracle) (s : AState) (o : Op) : Option (PV × Heap × Nat) :=
  match o with
  | .call ⟨.value (.func f), args, ts⟩ => if ts.toList.any (refT P) || hot.contains f then Φ.h f (args.toList.map (s.ev G)) s.H s.nx else
    (match toTs s.H (args.toList.map (s.ev G)) with
    | some (targs, F) => match Φ f targs with
      | some r => some (.t r, if F.isEmpty then s.H else if plainT r then s.H else remAll s.H F, s.nx)
      | none => none
    | none => none)
  | .call ⟨.value x, args, _⟩ => callvM Φ s.H s.nx (s.ev G x) (args.toList.map (s.ev G))
  | o => opV P s.H s.nx (s.ev G) o

section
variable {P : Program} {G : Globs} {B : Nat} {s : AState} {o : Oper} {Φ : Oracle}

theorem aop_valV (hΦ : Φ.Sound P G) {r : PV} {H' : Heap} {nx' : Nat} (h : valV P G Φ s o.op = some (r, H', nx')) : AOp P G B o s r H' nx' := by
  unfold valV at h
  split at h
  · rename_i f args ts ho
    split at h
    · exact aop_callP ho (hΦ.h _ _ _ _ _ _ _ h)
    · split at h
      · rename_i targs F hT
        split at h
        · rename_i q hq
          injection h with h; injection h with h1 h2; injection h2 with h2 h3; subst h1; subst h3
          have := aop_callT (B := B) ho hT (hΦ.t f targs q hq)
          cases hF : F.isEmpty with
          | true =>
            have : F = [] := by simpa using hF
            subst this
            simp only [List.isEmpty_nil, if_true] at h2
            subst h2
            rename_i this
            have e : (if plainT q = true then s.H else remAll s.H []) = s.H := by split <;> rfl
            rw [e] at this
            exact this
          | false =>
            rw [hF] at h2
            simp only [Bool.false_eq_true, if_false] at h2
            subst h2
            exact this
        · cases h
      · cases h
  · rename_i x args ts hne ho
    unfold callvM at h
    split at h
    · rename_i f hx
      exact aop_callV ho hx (hΦ.h _ _ _ _ _ _ _ h)
    · rename_i f first cap hx
      exact aop_callF ho hx (hΦ.h _ _ _ _ _ _ _ h)
    · cases h
  · exact aop_opV h

/-- One operation, in the text's order. -/
def stepOp (P : Program) (G : Globs) (Φ : Oracle) (ops : Array Oper) (s : AState) (o : Oper) : Option AState :=
  if o.dst.all (· < s.n) then
    match s.wants ops o with
    | some true => match valV P G Φ s o.op with
      | some (r, H', nx') => some (({ s with H := H', nx := nx' } : AState).put o.dst r)
      | none => none
    | some false => some (s.put o.dst (.t (.v undef)))
    | none => none
  else none

def runOps (P : Program) (G : Globs) (Φ : Oracle) (ops : Array Oper) : List Oper → AState → Option AState
  | [], s => some s
  | o :: rest, s => match stepOp P G Φ ops s o with
    | some s' => runOps P G Φ ops rest s'
    | none => none

theorem runOps_sound (hΦ : Φ.Sound P G) {ops : Array Oper} {Q : AState → Prop} : ∀ (l : List Oper) {s s' : AState}, runOps P G Φ ops l s = some s' → Q s' → AOps P G B ops l Q s
  | [], s, s', h, hq => by
    simp only [runOps, Option.some.injEq] at h
    subst h
    exact aops_nil hq
  | o :: rest, s, s', h, hq => by
    simp only [runOps] at h
    split at h
    · rename_i s1 h1
      unfold stepOp at h1
      split at h1
      · rename_i hd
        have hd' : ∀ k, o.dst = some k → k < s.n := by
          intro k hk
          rw [hk] at hd
          simpa using hd
        split at h1
        · rename_i hw
          split at h1
          · rename_i r H' nx' hv
            injection h1 with h1
            subst h1
            exact aops_cons hw hd' (aop_valV hΦ hv) (runOps_sound hΦ rest h hq)
          · cases h1
        · rename_i hw
          injection h1 with h1
          subst h1
          exact aops_skip hw hd' (runOps_sound hΦ rest h hq)
        · cases h1
      · cases h1
    · cases h
end

/-! Regions that draw their order. -/

/-- Which operations come before each, by their numbers' bits. -/
def ancs : List Oper → List Nat → List Nat
  | [], acc => acc
  | o :: rest, acc => ancs rest (acc ++ [(o.after.toList.filter (Region.binds .any)).foldl (fun m e => m ||| 2 ^ e.on ||| acc.getD e.on 0) 0])

/-- The slots that an operation looks at. -/
def eyes (ops : Array Oper) (o : Oper) : List Tmp := o.looksAt ops

/-- A region whose first m operations may go in any order that the edges allow, and whose others go in the text's order behind them. -/
def drawOK (ops : Array Oper) (m : Nat) : Bool :=
  let A := ancs ops.toList []
  let before (i j : Nat) : Bool := (A.getD j 0).testBit i
  ops.toList.zipIdx.all fun (o, i) =>
    (o.after.toList.all fun e => decide (e.on < i) || !Region.binds .any e) &&
    (if m ≤ i then (List.range i).all fun j => before j i
     else ops.toList.zipIdx.all fun (o', j) => match o'.dst with
      | some d => (if (eyes ops o).contains d then (decide (j < i) && before j i) || before i j else true) && (i == j || m ≤ j || o.dst != some d)
      | none => true)

section
variable {ops : Array Oper}

/-- A set of listed operations that holds what comes before each of them. -/
def Closed (ops : Array Oper) (S : Array Bool) : Prop := ∀ (i : Nat) o, ops[i]? = some o → S.getD i false = true → ∀ e ∈ o.after.toList, Region.binds .any e = true → S.getD e.on false = true

theorem foldl_or_bit (acc : List Nat) (i : Nat) : ∀ (es : List Edge) (m : Nat), (es.foldl (fun m e => m ||| 2 ^ e.on ||| acc.getD e.on 0) m).testBit i = true → m.testBit i = true ∨ ∃ e ∈ es, e.on = i ∨ (acc.getD e.on 0).testBit i = true
  | [], m, h => .inl h
  | e :: es, m, h => by
    simp only [List.foldl_cons] at h
    rcases foldl_or_bit acc i es _ h with h | ⟨e', he', h⟩
    · simp only [Nat.testBit_or, Bool.or_eq_true] at h
      rcases h with (h | h) | h
      · exact .inl h
      · rw [Nat.testBit_two_pow] at h
        exact .inr ⟨e, by simp, .inl (by simpa using h)⟩
      · exact .inr ⟨e, by simp, .inr h⟩
    · exact .inr ⟨e', by simp [he'], h⟩

theorem ancs_sound {S : Array Bool} (hS : Closed ops S) : ∀ (rest done : List Oper) (acc : List Nat), ops.toList = done ++ rest → acc.length = done.length →
    (∀ (j : Nat) i o, done[j]? = some o → (acc.getD j 0).testBit i = true → (∀ e ∈ o.after.toList, Region.binds .any e = true → S.getD e.on false = true) → S.getD i false = true) →
    ∀ (j : Nat) i o, ops[j]? = some o → ((ancs rest acc).getD j 0).testBit i = true → (∀ e ∈ o.after.toList, Region.binds .any e = true → S.getD e.on false = true) → S.getD i false = true
  | [], done, acc, he, hl, h => by
    intro j i o ho hb hp
    refine h j i o ?_ hb hp
    have : ops.toList[j]? = some o := by simpa using ho
    rwa [he, List.append_nil] at this
  | q :: rest, done, acc, he, hl, h => by
    refine ancs_sound hS rest (done ++ [q]) _ (by simp [he]) (by simp [hl]) ?_
    intro j i o ho hb hp
    by_cases hj : j < done.length
    · rw [List.getElem?_append_left hj] at ho
      rw [List.getD_eq_getElem?_getD, List.getElem?_append_left (by omega), ← List.getD_eq_getElem?_getD] at hb
      exact h j i o ho hb hp
    · have hj2 : j = done.length := by
        have := (List.getElem?_eq_some_iff.1 ho).1
        simp at this
        omega
      subst hj2
      simp only [List.getElem?_append_right (Nat.le_refl _), Nat.sub_self, List.getElem?_cons_zero, Option.some.injEq] at ho
      subst ho
      rw [List.getD_eq_getElem?_getD, ← hl, List.getElem?_append_right (Nat.le_refl _)] at hb
      simp only [Nat.sub_self, List.getElem?_cons_zero, Option.getD_some] at hb
      rcases foldl_or_bit acc i _ 0 hb with hb | ⟨e, he', hb⟩
      · simp at hb
      · obtain ⟨he1, he2⟩ := List.mem_filter.1 he'
        have hpe := hp e he1 he2
        rcases hb with rfl | hb
        · exact hpe
        · -- e.on is done, and listed: what comes before it is listed too
          by_cases hlt : e.on < done.length
          · obtain ⟨oe, hoe⟩ : ∃ oe, done[e.on]? = some oe := ⟨_, List.getElem?_eq_getElem hlt⟩
            refine h e.on i oe hoe hb ?_
            refine hS e.on oe ?_ hpe
            have : ops.toList[e.on]? = some oe := by rw [he, List.getElem?_append_left hlt]; exact hoe
            simpa using this
          · rw [List.getD_eq_getElem?_getD, List.getElem?_eq_none (by omega)] at hb
            simp at hb

theorem before_listed {S : Array Bool} (hS : Closed ops S) {i j : Nat} {o : Oper} (ho : ops[j]? = some o) (hb : ((ancs ops.toList []).getD j 0).testBit i = true)
    (hp : ∀ e ∈ o.after.toList, Region.binds .any e = true → S.getD e.on false = true) : S.getD i false = true :=
  ancs_sound hS ops.toList [] [] (by simp) rfl (by simp) j i o ho hb hp
end
end Go.Abs

namespace Go.Abs
set_option linter.unusedSimpArgs false
set_option linter.unusedVariables false
open Go

inductive Opd where
  | tmp (t : Nat)
  | k (p : PV)

@[simp] def Opd.ev (env : List (Nat × PV)) : Opd → PV
  | .tmp t => (look env t).getD .dead
  | .k p => p

def compOpd (G : Globs) : Operand → Opd
  | .tmp t => .tmp t
  | .const x => .k (ofConst x)
  | .global g => .k (match look G g with
    | some cs => .t (.pt cs)
    | none => .t (.v (.pointer (some ⟨g, 0, none⟩))))
  | .func f => .k (.t (.v (.func (.func f) #[] #[])))

theorem compOpd_ev (G : Globs) (s : AState) (x : Operand) : (compOpd G x).ev s.env = s.ev G x := by cases x <;> rfl

/-- Kinds of nil. -/
inductive NK where
  | sl | ifc | ptr | fn | mp

/-- Cells that == looks at. -/
inductive CK where
  | i | s | b

/-- Further operations that only compute. -/
inductive EK where
  | eqs (neg : Bool) (ks : List CK)

/-- Further operations that make, read or write rows. -/
inductive HK where
  | range
  | next
  | b2s

/-- Kinds of operations. -/
inductive MK where
  | mv
  | pick
  | bin (isB : Bool) (op : BinOp) (nk : Option NK)
  | un (op : UnOp)
  | conv (k : Option IntKind)
  | load (agg : Bool) (n : Nat)
  | faddr (off : Nat)
  | field (off : Nat) (agg : Bool) (n : Nat)
  | iaddr (z : Nat)
  | aaddr (len z : Nat)
  | index
  | slstr (lo hi : Bool)
  | slice (z : Nat) (lo hi : Bool)
  | ext (i : Nat)
  | chk
  | lenstr
  | lensl
  | min
  | max
  | store (n : Nat)
  | make (e n by' : Nat) (zc : List Value)
  | bslice (e n : Nat) (zc : List Value) (len : Nat) (idx : List Nat)
  | build (places : List (Nat × Nat)) (zc : List Value) (idx : List Nat)
  | barr (n : Nat) (zc : List Value) (idx : List Nat)
  | box (t : Nat)
  | alloc (t : Nat) (zc : List Value)
  | app (e n by' : Nat)
  | call (f : Nat)
  | hcall (f : Nat)
  | callv
  | tslice (e n : Nat) (zc : List Value) (len : Nat) (idx : List Nat)
  | bad
  | ex (e : EK)
  | hx (h : HK)

def isBoolT (P : Program) (t : TypeId) : Bool := match P.underlying t with | some .bool => true | _ => false

/-- An operator on two plain values. -/
@[simp] def binM (isB : Bool) (op : BinOp) (x y : Value) : Option Value :=
  match x, y with
  | .int k a, .int k' b =>
    match op with
    | .shl => if b < 0 then none else some (.int k (k.wrap (a * 2 ^ (min b.toNat k.bits))))
    | .shr => if b < 0 then none else some (.int k (a.fdiv (2 ^ (min b.toNat k.bits))))
    | .add => if k = k' then some (.int k (k.wrap (a + b))) else none
    | .sub => if k = k' then some (.int k (k.wrap (a - b))) else none
    | .mul => if k = k' then some (.int k (k.wrap (a * b))) else none
    | .quo => if k = k' then (if b = 0 then none else some (.int k (k.wrap (a.tdiv b)))) else none
    | .rem => if k = k' then (if b = 0 then none else some (.int k (a.tmod b))) else none
    | .and => if k = k' then some (.int k (k.wrap (BitVec.ofInt k.bits a &&& BitVec.ofInt k.bits b).toNat)) else none
    | .or => if k = k' then some (.int k (k.wrap (BitVec.ofInt k.bits a ||| BitVec.ofInt k.bits b).toNat)) else none
    | .xor => if k = k' then some (.int k (k.wrap (BitVec.ofInt k.bits a ^^^ BitVec.ofInt k.bits b).toNat)) else none
    | .andNot => if k = k' then some (.int k (k.wrap (BitVec.ofInt k.bits a &&& ~~~ (BitVec.ofInt k.bits b)).toNat)) else none
    | .eql => if k = k' then some (.bool (a == b)) else none
    | .neq => if k = k' then some (.bool (a != b)) else none
    | .lss => if k = k' then some (.bool (decide (a < b))) else none
    | .leq => if k = k' then some (.bool (decide (a ≤ b))) else none
    | .gtr => if k = k' then some (.bool (decide (b < a))) else none
    | .geq => if k = k' then some (.bool (decide (b ≤ a))) else none
  | .string a, .string b =>
    match op with
    | .add => if a.size + b.size ≤ 9223372036854775807 then some (.string (a ++ b)) else none
    | .eql => some (.bool (a.toList == b.toList))
    | .neq => some (.bool (!(a.toList == b.toList)))
    | .lss => some (.bool (Op.bytesLess a.toList b.toList))
    | .leq => some (.bool (Op.bytesLess a.toList b.toList || a.toList == b.toList))
    | .gtr => some (.bool (!(Op.bytesLess a.toList b.toList || a.toList == b.toList)))
    | .geq => some (.bool (!(Op.bytesLess a.toList b.toList)))
    | _ => none
  | .bool a, .bool b =>
    match op, isB with
    | .eql, true => some (.bool (a == b))
    | .neq, true => some (.bool (!(a == b)))
    | _, _ => none
  | _, _ => none

theorem binM_eq (P : Program) (t : TypeId) (op : BinOp) (x y : Value) : binV P t op x y = binM (isBoolT P t) op x y := by
  unfold binV binM isBoolT
  cases x <;> cases y <;> try rfl
  case bool.bool a b =>
    simp only
    cases hu : P.underlying t with
    | none => cases op <;> rfl
    | some d => cases d <;> cases op <;> rfl

@[simp] def nilM (nk : NK) (p : PV) : Option Bool :=
  match nk, p with
  | .sl, .t (.v (.slice none _ _)) => some true
  | .sl, .t (.sl _ _) => some false
  | .sl, .row _ _ _ _ => some false
  | .ifc, .t (.v .nilIface) => some true
  | .ifc, .t (.ic _ _) => some false
  | .ifc, .ic _ _ => some false
  | .ptr, .t (.v (.pointer none)) => some true
  | .ptr, .t (.pt _) => some false
  | .ptr, .ptr _ _ => some false
  | .fn, .t (.v .nilFunc) => some true
  | .fn, .t (.v (.func _ _ _)) => some false
  | .fn, .fn _ _ _ => some false
  | .mp, .t (.v (.map none)) => some true
  | .mp, .mp _ => some false
  | _, _ => none

def nkOf (P : Program) (t : TypeId) : Operand → Option NK
  | .const (.slice none _ _) => match P.underlying t with | some (.slice _) => some .sl | _ => none
  | .const .nilIface => match P.underlying t with | some (.interface _) => some .ifc | _ => none
  | .const (.pointer none) => match P.underlying t with | some (.pointer _) => some .ptr | _ => none
  | .const .nilFunc => match P.underlying t with | some (.func _ _ _) => some .fn | _ => none
  | .const (.map none) => match P.underlying t with | some (.map _ _) => some .mp | _ => none
  | _ => none

@[simp] def cmpM (op : BinOp) (nk : Option NK) (p : PV) : Option PV :=
  match nk with
  | some n => match op with
    | .eql => (nilM n p).map fun b => .t (.v (.bool b))
    | .neq => (nilM n p).map fun b => .t (.v (.bool (!b)))
    | _ => none
  | none => none

theorem cmpM_sub (P : Program) (op : BinOp) (t : TypeId) (p : PV) (y : Operand) {r : PV} (h : cmpM op (nkOf P t y) p = some r) : cmpNil P op t p y = some r := by
  have key : ∀ c n b, nkOf P t (.const c) = some n → nilM n p = some b → nilEq P t p c = some b := by
    intro c n b hn hb
    unfold nkOf at hn
    split at hn <;> (try cases hn) <;> (rename_i hc; injection hc with hc; subst hc; split at hn <;> (try cases hn))
    all_goals (rename_i hu; unfold nilEq; rw [hu]; unfold nilM at hb; split at hb <;> (try cases hb) <;> first | rfl | contradiction)
  cases y with
  | const c =>
    simp only [cmpM] at h
    split at h
    · rename_i n hn
      simp only [cmpNil]
      cases op <;> simp only at h ⊢ <;> try cases h
      all_goals
        cases hb : nilM n p with
        | none => rw [hb] at h; cases h
        | some b => rw [hb] at h; rw [key c n b hn hb]; exact h
    · cases h
  | tmp _ => simp [nkOf, cmpM] at h
  | global _ => simp [nkOf, cmpM] at h
  | func _ => simp [nkOf, cmpM] at h

end Go.Abs

namespace Go.Abs
set_option linter.unusedSimpArgs false
set_option linter.unusedVariables false
open Go

/-- Are two lists of cells equal, kind by kind? -/
def eqCells : List CK → List T → List T → Option Bool
  | [], [], [] => some true
  | .i :: ks, .v (.int k a) :: xs, .v (.int k' b) :: ys => if k = k' then (eqCells ks xs ys).map fun r => (a == b) && r else none
  | .s :: ks, .v (.string a) :: xs, .v (.string b) :: ys => (eqCells ks xs ys).map fun r => (a.toList == b.toList) && r
  | .b :: ks, .v (.bool a) :: xs, .v (.bool b) :: ys => (eqCells ks xs ys).map fun r => (a == b) && r
  | _, _, _ => none

def exM : EK → List PV → Option PV
  | .eqs neg ks, [.t (.ag xs), .t (.ag ys)] => (eqCells ks xs ys).map fun r => .t (.v (.bool (if neg then !r else r)))
  | _, _ => none

/-- Bytes. -/
def bytesOf : List T → Option (List UInt8)
  | [] => some []
  | .v (.int .u8 n) :: r => (bytesOf r).map fun l => UInt8.ofNat n.toNat :: l
  | _ => none

def hxM (k : HK) (H : Heap) (nx : Nat) (ps : List PV) : Option (PV × Heap × Nat) :=
  match k, ps with
  | .range, [.t (.v (.string s))] => some (.ptr nx 0, (nx, .iter s 0) :: H, nx + 1)
  | .next, [.ptr b 0] => match look H b with
    | some (.iter s pos) => if pos < s.size then
        some (.t (.tu [.v (.bool true), .v (.int .i64 pos), .v (.int .i32 (Utf8.decode s pos).1)]), upd H b (.iter s (pos + (Utf8.decode s pos).2)), nx)
      else some (.t (.tu [.v (.bool false)]), H, nx)
    | _ => none
  | .b2s, [p] => match toTS H p with
    | some cs => (bytesOf cs).map fun l => (.t (.v (.string ⟨l.toArray⟩)), H, nx)
    | none => none
  | _, _ => none
where
  toTS (H : Heap) : PV → Option (List T)
    | .t (.v (.slice none _ _)) => some []
    | .t (.sl n cs) => if cs.length = n then some cs else none
    | .row b o n z => match look H b with
      | some (.cells _ cs) => if z = 1 ∧ o + n ≤ cs.length then allT ((cs.drop o).take n) else none
      | _ => none
    | _ => none

/-- The kinds of a struct's cells, if == looks at each of them by itself. -/
def kindsFrom (P : Program) : Nat → List Field → Option (List CK)
  | _, [] => some []
  | o, f :: fs => if f.name ≠ "_" ∧ f.offset = o ∧ (P.info? f.type).map (·.size) = some 1 then
      (match P.underlying f.type with
      | some (.int _) => (kindsFrom P (o + 1) fs).map (.i :: ·)
      | some .string => (kindsFrom P (o + 1) fs).map (.s :: ·)
      | some .bool => (kindsFrom P (o + 1) fs).map (.b :: ·)
      | _ => none)
    else none

def kindsOf (P : Program) (t : TypeId) : Option (List CK) :=
  match P.underlying t with
  | some (.struct fs) => if P.stoodInHeld t = false ∧ P.eqGuardType P.depth t = false then kindsFrom P 0 fs.toList else none
  | _ => none

/-- The compact form of a further operation. -/
def extK (P : Program) (G : Globs) (o : Op) : Option (MK × List Opd) :=
  match o with
  | .binOp .eql t x y _ => (kindsOf P t).map fun ks => (.ex (.eqs false ks), [compOpd G x, compOpd G y])
  | .binOp .neq t x y _ => (kindsOf P t).map fun ks => (.ex (.eqs true ks), [compOpd G x, compOpd G y])
  | .range t x => match P.underlying t with
    | some .string => some (.hx .range, [compOpd G x])
    | _ => none
  | .next x true => some (.hx .next, [compOpd G x])
  | .convert src dst x => match P.underlying src, P.underlying dst with
    | some (.slice e), some .string => match P.underlying e with
      | some (.int .u8) => some (.hx .b2s, [compOpd G x])
      | _ => none
    | _, _ => none
  | _ => none

theorem extK_kind {P : Program} {G : Globs} {o : Op} {k : MK} {xs : List Opd} (hk : match k with | .ex _ | .hx _ => False | _ => True) : ¬ extK P G o = some (k, xs) := by
  intro h
  unfold extK at h
  split at h
  · obtain ⟨ks, _, e⟩ := Option.map_eq_some_iff.1 h
    injection e with e1 e2; subst e1; exact hk
  · obtain ⟨ks, _, e⟩ := Option.map_eq_some_iff.1 h
    injection e with e1 e2; subst e1; exact hk
  · split at h
    · injection h with h; injection h with e1 e2; subst e1; exact hk
    · cases h
  · injection h with h; injection h with e1 e2; subst e1; exact hk
  · split at h
    · split at h
      · injection h with h; injection h with e1 e2; subst e1; exact hk
      · cases h
    · cases h
  · cases h

section
variable {P : Program} {G : Globs} {B : Nat} {s : AState} {o : Oper}

theorem part_one {w : World} {t : TypeId} {xs : Array Value} {off : Nat} {x : Value} (hu : P.underlying t = some .string ∨ P.underlying t = some .bool ∨ ∃ k, P.underlying t = some (.int k)) (hx : xs[off]? = some x) : (part t xs off).run P w = .ok x w := by
  have ha : (isAgg t).run P w = .ok false w := by
    rcases hu with h | h | ⟨k, h⟩ <;> simp [isAgg, run_underlying h]
  simp [part, ha, hx]

theorem eqCells_i {ks : List CK} {cx cy : List T} {r : Bool} (h : eqCells (.i :: ks) cx cy = some r) : ∃ k a xs b ys r1, cx = .v (.int k a) :: xs ∧ cy = .v (.int k b) :: ys ∧ eqCells ks xs ys = some r1 ∧ r = ((a == b) && r1) := by
  unfold eqCells at h
  split at h
  all_goals (first | (rename_i hh; cases hh; done) | (cases h; done) | skip)
  rename_i ks' k a xs k' b ys hk
  cases hk
  split at h
  · rename_i e; subst e
    obtain ⟨r1, h1, h2⟩ := Option.map_eq_some_iff.1 h
    exact ⟨k, a, xs, b, ys, r1, rfl, rfl, h1, h2.symm⟩
  · cases h
theorem eqCells_s {ks : List CK} {cx cy : List T} {r : Bool} (h : eqCells (.s :: ks) cx cy = some r) : ∃ a xs b ys r1, cx = .v (.string a) :: xs ∧ cy = .v (.string b) :: ys ∧ eqCells ks xs ys = some r1 ∧ r = ((a.toList == b.toList) && r1) := by
  unfold eqCells at h
  split at h
  all_goals (first | (rename_i hh; cases hh; done) | (cases h; done) | skip)
  rename_i ks' a xs b ys hk
  cases hk
  obtain ⟨r1, h1, h2⟩ := Option.map_eq_some_iff.1 h
  exact ⟨a, xs, b, ys, r1, rfl, rfl, h1, h2.symm⟩
theorem eqCells_b {ks : List CK} {cx cy : List T} {r : Bool} (h : eqCells (.b :: ks) cx cy = some r) : ∃ a xs b ys r1, cx = .v (.bool a) :: xs ∧ cy = .v (.bool b) :: ys ∧ eqCells ks xs ys = some r1 ∧ r = ((a == b) && r1) := by
  unfold eqCells at h
  split at h
  all_goals (first | (rename_i hh; cases hh; done) | (cases h; done) | skip)
  rename_i ks' a xs b ys hk
  cases hk
  obtain ⟨r1, h1, h2⟩ := Option.map_eq_some_iff.1 h
  exact ⟨a, xs, b, ys, r1, rfl, rfl, h1, h2.symm⟩

theorem eqFields_run {w : World} (I : Nat → Prop) (d : Nat) (xs ys : Array Value) : ∀ (fs : List Field) (off : Nat) (ks : List CK) (cx cy : List T) (r : Bool), kindsFrom P off fs = some ks → eqCells ks cx cy = some r →
    RepL I w cx (xs.toList.drop off) → RepL I w cy (ys.toList.drop off) → (Op.eqFields (d + 1) xs ys fs).run P w = .ok r w
  | [], off, ks, cx, cy, r, hk, he, _, _ => by
    simp only [kindsFrom, Option.some.injEq] at hk
    subst hk
    cases cx <;> cases cy <;> simp [eqCells] at he
    subst he
    simp [Op.eqFields]
  | f :: fs, off, ks, cx, cy, r, hk, he, hx, hy => by
    simp only [kindsFrom] at hk
    split at hk
    · rename_i hf
      obtain ⟨hn, ho, h1⟩ := hf
      have key : ∀ (a b : T) (cx' cy' : List T) (r0 r1 : Bool) (ks' : List CK), cx = a :: cx' → cy = b :: cy' → kindsFrom P (off + 1) fs = some ks' → eqCells ks' cx' cy' = some r1 → r = (r0 && r1) →
          (P.underlying f.type = some .string ∨ P.underlying f.type = some .bool ∨ ∃ k, P.underlying f.type = some (.int k)) →
          (∀ u v, RepT I w a u → RepT I w b v → (Op.equalIn (d + 1) f.type u v).run P w = .ok r0 w) → (Op.eqFields (d + 1) xs ys (f :: fs)).run P w = .ok r w := by
        intro a b cx' cy' r0 r1 ks' ex ey hks hr1 hr hu heq
        subst ex; subst ey
        simp only [RepL] at hx hy
        obtain ⟨u, us, e1, hu1, hus⟩ := hx
        obtain ⟨v, vs, e2, hv1, hvs⟩ := hy
        have g1 : xs[off]? = some u := by
          have : (xs.toList.drop off)[0]? = some u := by rw [e1]; rfl
          simpa using this
        have g2 : ys[off]? = some v := by
          have : (ys.toList.drop off)[0]? = some v := by rw [e2]; rfl
          simpa using this
        have d1 : xs.toList.drop (off + 1) = us := by
          have := congrArg (List.drop 1) e1
          simpa using this
        have d2 : ys.toList.drop (off + 1) = vs := by
          have := congrArg (List.drop 1) e2
          simpa using this
        have ih := eqFields_run I d xs ys fs (off + 1) ks' cx' cy' r1 hks hr1 (by rw [d1]; exact hus) (by rw [d2]; exact hvs)
        simp only [Op.eqFields, hn, ne_eq, not_false_eq_true, if_true, ho, Sem.run_bind, part_one hu g1, part_one hu g2, Result.andThen_ok, heq u v hu1 hv1]
        cases r0 with
        | true => simp [hr, ih]
        | false => simp [hr]
      split at hk
      · rename_i k hu
        obtain ⟨ks', hks, rfl⟩ := Option.map_eq_some_iff.1 hk
        obtain ⟨k1, a, xs', b, ys', r1, e1, e2, h1, h2⟩ := eqCells_i he
        refine key _ _ _ _ (a == b) r1 ks' e1 e2 hks h1 h2 (.inr (.inr ⟨k, hu⟩)) fun u v hu' hv' => ?_
        simp only [RepT] at hu' hv'
        subst hu'; subst hv'
        exact run_equalIn_int w d f.type k1 k a b hu
      · rename_i hu
        obtain ⟨ks', hks, rfl⟩ := Option.map_eq_some_iff.1 hk
        obtain ⟨a, xs', b, ys', r1, e1, e2, h1, h2⟩ := eqCells_s he
        refine key _ _ _ _ (a.toList == b.toList) r1 ks' e1 e2 hks h1 h2 (.inl hu) fun u v hu' hv' => ?_
        simp only [RepT] at hu' hv'
        subst hu'; subst hv'
        exact run_equalIn_string w d f.type a b hu
      · rename_i hu
        obtain ⟨ks', hks, rfl⟩ := Option.map_eq_some_iff.1 hk
        obtain ⟨a, xs', b, ys', r1, e1, e2, h1, h2⟩ := eqCells_b he
        refine key _ _ _ _ (a == b) r1 ks' e1 e2 hks h1 h2 (.inr (.inl hu)) fun u v hu' hv' => ?_
        simp only [RepT] at hu' hv'
        subst hu'; subst hv'
        exact run_equalIn_bool' w d f.type a b hu
      · cases hk
    · cases hk

theorem aop_eqs {neg : Bool} {t : TypeId} {x y : Operand} {yt : TypeId} {ks : List CK} {r : PV} (ho : o.op = .binOp (if neg then .neq else .eql) t x y yt) (hk : kindsOf P t = some ks)
    (h : exM (.eqs neg ks) [s.ev G x, s.ev G y] = some r) : AOp P G B o s r s.H s.nx := by
  refine aop_light fun L a w hi => ?_
  have hx := hi.ev x
  have hy := hi.ev y
  unfold exM at h
  split at h
  · rename_i n' ks' xs ys e1 e2
    injection e1 with e1 e1'
    subst e1; subst e1'
    injection e2 with e2 e3
    injection e3 with e3 e4
    rw [e2] at hx
    rw [e3] at hy
    simp only [RepV, RepT] at hx hy
    obtain ⟨us, ex, _, hxs⟩ := hx
    obtain ⟨vs, ey, _, hys⟩ := hy
    obtain ⟨b, hb, rfl⟩ := Option.map_eq_some_iff.1 h
    unfold kindsOf at hk
    split at hk
    · rename_i fs hu
      split at hk
      · rename_i hc
        have hf : P.fieldsOf t = fs := by simp [Program.fieldsOf, hu]
        have hrun : (Op.equalIn 10000 t (.agg us) (.agg vs)).run P w = .ok b w := by
          rw [show (10000 : Nat) = 9998 + 1 + 1 from rfl, run_equalIn_struct w (9998 + 1) t us vs (by rw [hf]; exact hu) hc.1, hf]
          exact eqFields_run L.I 9998 us vs fs.toList 0 ks xs ys b hk hb (by simpa using hxs) (by simpa using hys)
        refine ⟨.bool (if neg then !b else b), ?_, by simp only [RepV, RepT]⟩
        cases neg with
        | true =>
          simp only [if_true] at ho
          simp only [execOp, ho, ex, ey, Sem.run_bind, run_eqGuard_agg w .neq t x y us vs hc.2, run_neq_struct w t us vs, hrun, Result.andThen_ok, if_true]
          rfl
        | false =>
          simp only [Bool.false_eq_true, if_false] at ho
          simp only [execOp, ho, ex, ey, Sem.run_bind, run_eqGuard_agg w .eql t x y us vs hc.2, run_eql_struct w t us vs, hrun, Result.andThen_ok, Bool.false_eq_true, if_false]
          rfl
      · cases hk
    · cases hk
  · cases h

theorem aop_range {t : TypeId} {x : Operand} {st : ByteArray} (ho : o.op = .range t x) (hu : P.underlying t = some .string) (hx : s.ev G x = .t (.v (.string st))) : AOp P G B o s (.ptr s.nx 0) ((s.nx, .iter st 0) :: s.H) (s.nx + 1) := by
  refine aop_new fun L a w hi => ?_
  have h := hi.ev x
  rw [hx] at h
  simp only [RepV, RepT] at h
  refine ⟨.pointer (some ⟨w.heap.size, 0, none⟩), w.iter st 0, .stringIter st 0, by simp [execOp, ho, h, run_range_string w t st hu], ⟨rfl, rfl, rfl⟩, rfl, fun hm => ⟨World.iter_heap w st 0, ?_⟩⟩
  simp only [RepV]
  exact ⟨by simp [Loc.grow, hi.nx], by simp [Loc.grow, hi.nx]⟩

theorem aop_next {x : Operand} {b : Nat} {st : ByteArray} {pos : Nat} (ho : o.op = .next x true) (hx : s.ev G x = .ptr b 0) (hl : look s.H b = some (.iter st pos)) (hp : pos < st.size) :
    AOp P G B o s (.t (.tu [.v (.bool true), .v (.int .i64 pos), .v (.int .i32 (Utf8.decode st pos).1)])) (upd s.H b (.iter st (pos + (Utf8.decode st pos).2))) s.nx := fun L a w hi => by
  have h := hi.ev x
  rw [hx] at h
  simp only [RepV] at h
  obtain ⟨hb, h⟩ := h
  have hr := hi.heap.rep b _ hl
  have hr' : w.heap[L.μ b]? = some (.stringIter st pos) := hr
  have hlt := (Array.getElem?_eq_some_iff.1 hr').1
  unfold Oper.wp
  have hrun : (execOp a.eval o).run P w = .ok (.value (.tuple #[.bool true, .int .i64 pos, .int .i32 (Utf8.decode st pos).1])) { w with heap := w.heap.setIfInBounds (L.μ b) (.stringIter st (pos + (Utf8.decode st pos).2)) } := by
    simp [execOp, ho, h, Instr.next, getObj, setObj, Sem.run, hr', hp, goInt]
  rw [hrun, Oper.upon_value]
  have hw := heap_write (w' := { w with heap := w.heap.setIfInBounds (L.μ b) (.stringIter st (pos + (Utf8.decode st pos).2)) }) (r := .iter st (pos + (Utf8.decode st pos).2)) hi.heap ⟨rfl, rfl, rfl⟩ hl (by simp)
    (fun g hg => by simp [Array.getElem?_setIfInBounds_ne (Ne.symm hg)]) (fun g hg arr ty fz he => by
      by_cases e : g = L.μ b
      · subst e; simp [hlt] at he
      · simp [Array.getElem?_setIfInBounds_ne (Ne.symm e)] at he; exact ⟨arr, fz, he, rfl⟩)
    (fun _ => by simp [RowRep, hlt])
  exact ⟨_, L, rfl, by simp [RepV, RepT, RepL], hw.1, hi.nx, hw.2.1, hw.2.2⟩

theorem aop_over {x : Operand} {b : Nat} {st : ByteArray} {pos : Nat} (ho : o.op = .next x true) (hx : s.ev G x = .ptr b 0) (hl : look s.H b = some (.iter st pos)) (hp : ¬ pos < st.size) :
    AOp P G B o s (.t (.tu [.v (.bool false)])) s.H s.nx := by
  refine aop_light fun L a w hi => ?_
  have h := hi.ev x
  rw [hx] at h
  simp only [RepV] at h
  obtain ⟨hb, h⟩ := h
  have hr : w.heap[L.μ b]? = some (.stringIter st pos) := hi.heap.rep b _ hl
  exact ⟨.tuple #[.bool false], by simp [execOp, ho, h, Instr.next, getObj, Sem.run, hr, hp], by simp [RepV, RepT, RepL]⟩

theorem bytesOf_rep {I : Nat → Prop} {w : World} : ∀ {cs : List T} {l : List UInt8} {us : List Value}, bytesOf cs = some l → RepL I w cs us → ∃ ns : List Int, us = ns.map (Value.int .u8) ∧ l = ns.map fun n => UInt8.ofNat n.toNat
  | [], l, us, h, hr => by
    simp only [bytesOf, Option.some.injEq] at h
    simp only [RepL] at hr
    exact ⟨[], by simp [hr], by simp [← h]⟩
  | c :: cs, l, us, h, hr => by
    simp only [RepL] at hr
    obtain ⟨x, xs, rfl, hx, hxs⟩ := hr
    unfold bytesOf at h
    split at h
    · rename_i e; cases e
    · rename_i n r e
      injection e with e1 e2
      subst e1; subst e2
      obtain ⟨l', hl', rfl⟩ := Option.map_eq_some_iff.1 h
      obtain ⟨ns, h1, h2⟩ := bytesOf_rep hl' hxs
      simp only [RepT] at hx
      exact ⟨n :: ns, by simp [hx, h1], by simp [h2]⟩
    · cases h

theorem push_all : ∀ (ns : List Int) (b : ByteArray), ns.foldl (fun r n => r.push (UInt8.ofNat n.toNat)) b = ⟨b.data ++ (ns.map fun n => UInt8.ofNat n.toNat).toArray⟩
  | [], b => by simp
  | n :: ns, b => by
    rw [List.foldl_cons, push_all ns]
    simp [ByteArray.push]

theorem add_none (b o j : Nat) : (⟨b, o, none⟩ : Addr).add j = ⟨b, o + j, none⟩ := by
  unfold Addr.add
  split
  · rename_i h; subst h; rfl
  · rfl

theorem aop_b2s {src dst e : TypeId} {x : Operand} {cs : List T} {l : List UInt8} (ho : o.op = .convert src dst x) (hs : P.underlying src = some (.slice e)) (hd : P.underlying dst = some .string) (he : P.underlying e = some (.int .u8))
    (hx : hxM.toTS s.H (s.ev G x) = some cs) (hl : bytesOf cs = some l) : AOp P G B o s (.t (.v (.string ⟨l.toArray⟩))) s.H s.nx := by
  refine aop_light fun L a w hi => ?_
  refine ⟨.string ⟨l.toArray⟩, ?_, by simp only [RepV, RepT]⟩
  have h := hi.ev x
  have go : ∀ (ad : Addr) (n c : Nat) (us : List Value), a.eval x = .slice (some ad) n c → us.length = n → (∀ (j : Nat) v, us[j]? = some v → w.cell? (ad.add j) = some v) → RepL L.I w cs us →
      (execOp a.eval o).run P w = .ok (.value (.string ⟨l.toArray⟩)) w := by
    intro ad n c us e1 hn hc hr
    obtain ⟨ns, hu, hln⟩ := bytesOf_rep hl hr
    have hload : (loadCells ad n).run P w = .ok (ns.map (Value.int .u8)).toArray w := by
      have := run_loadCells_list (P := P) w ad us hc
      rw [hn] at this
      rw [this, hu]
    have := run_bytesToString w ad n c ns hload
    rw [push_all, ← hln, show (ByteArray.empty.data ++ l.toArray) = l.toArray from Array.empty_append] at this
    simp only [execOp, ho, e1, Go.convert, Sem.run_bind, run_underlying hs, run_underlying hd, run_underlying he, Result.andThen_ok, this]
    rfl
  generalize hp : s.ev G x = p at h hx
  unfold hxM.toTS at hx
  split at hx
  · rename_i n c
    injection hx with hx
    subst hx
    simp only [bytesOf, Option.some.injEq] at hl
    subst hl
    simp only [RepV, RepT] at h
    simp only [execOp, ho, h, Go.convert, Sem.run_bind, run_underlying hs, run_underlying hd, run_underlying he, Result.andThen_ok, Conv.bytesToString]
    rfl
  · rename_i n cs'
    split at hx
    · rename_i hn
      injection hx with hx
      subst hx
      simp only [RepV, RepT] at h
      obtain ⟨ad, c, e1, hc, hb⟩ := h
      rcases hb with ⟨h0, h1⟩ | ⟨h0, h1, h2⟩
      · subst h1
        exact go ad n c [] e1 (by simp [h0]) (by simp) (by simp only [RepL])
      · obtain ⟨b, o', sp⟩ := ad
        simp only at h0 h1 h2
        subst h0
        have : ∀ (cs : List T) (o' : Nat), RepC L.I w cs b o' → ∃ us : List Value, us.length = cs.length ∧ (∀ (j : Nat) v, us[j]? = some v → w.cell? ⟨b, o' + j, none⟩ = some v) ∧ RepL L.I w cs us := by
          intro cs
          induction cs with
          | nil => intro o' _; exact ⟨[], rfl, by simp, by simp only [RepL]⟩
          | cons d cs ih =>
            intro o' hr
            simp only [RepC] at hr
            obtain ⟨⟨v, hv, _, hd⟩, hr⟩ := hr
            obtain ⟨us, h1, h2, h3⟩ := ih (o' + 1) hr
            refine ⟨v :: us, by simp [h1], fun j y hj => ?_, by simp only [RepL]; exact ⟨v, us, rfl, hd, h3⟩⟩
            cases j with
            | zero => simp at hj; subst hj; simpa using hv
            | succ j => have := h2 j y (by simpa using hj); rwa [show o' + (j + 1) = o' + 1 + j by omega]
        obtain ⟨us, h3, h4, h5⟩ := this _ _ h2
        exact go ⟨b, o', none⟩ n c us e1 (by omega) (fun j v hj => by rw [add_none]; exact h4 j v hj) h5
    · cases hx
  · rename_i b o' n z
    split at hx
    · rename_i ty cs' hlook
      split at hx
      · rename_i hz
        obtain ⟨rfl, hz⟩ := hz
        simp only [RepV] at h
        obtain ⟨hb', hμ, c, e1, hc, _⟩ := h
        obtain ⟨xs, hxl, hcell, h1, hrep⟩ := row_values (hi.heap.rep b _ hlook)
        have hseg := hrep.drop_take o' n
        rw [allT_map hx] at hseg
        refine go ⟨L.μ b, o', none⟩ n c ((xs.drop o').take n) e1 (by simp; omega) (fun j v hj => ?_) hseg.toT
        rw [List.getElem?_take] at hj
        split at hj
        · rw [List.getElem?_drop] at hj
          rw [add_none]; exact hcell _ v hj
        · cases hj
      · cases hx
    · cases hx
  · cases hx

theorem ext_aop {k : MK} {xs : List Opd} (hc : extK P G o.op = some (k, xs)) {r : PV} {H' : Heap} {nx' : Nat}
    (he : match k with
      | .ex e => ∃ p, exM e (xs.map (·.ev s.env)) = some p ∧ (r, H', nx') = (p, s.H, s.nx)
      | .hx h => hxM h s.H s.nx (xs.map (·.ev s.env)) = some (r, H', nx')
      | _ => False) : AOp P G B o s r H' nx' := by
  have ev1 := fun x => compOpd_ev G s x
  unfold extK at hc
  split at hc
  · rename_i t x y yt ho
    obtain ⟨ks, hk, e⟩ := Option.map_eq_some_iff.1 hc
    injection e with e1 e2; subst e1; subst e2
    simp only [List.map_cons, List.map_nil, ev1] at he
    obtain ⟨p, hp, e⟩ := he
    injection e with e1 e2; injection e2 with e2 e3; subst e1; subst e2; subst e3
    exact aop_eqs (neg := false) (by simpa using ho) hk hp
  · rename_i t x y yt ho
    obtain ⟨ks, hk, e⟩ := Option.map_eq_some_iff.1 hc
    injection e with e1 e2; subst e1; subst e2
    simp only [List.map_cons, List.map_nil, ev1] at he
    obtain ⟨p, hp, e⟩ := he
    injection e with e1 e2; injection e2 with e2 e3; subst e1; subst e2; subst e3
    exact aop_eqs (neg := true) (by simpa using ho) hk hp
  · rename_i t x ho
    split at hc
    · rename_i hu
      injection hc with hc; injection hc with e1 e2; subst e1; subst e2
      simp only [List.map_cons, List.map_nil, ev1] at he
      generalize hp : s.ev G x = p at he
      unfold hxM at he
      split at he
      all_goals (first | (rename_i e _; cases e; done) | (rename_i e; cases e; done) | skip)
      · rename_i st e1 e2
        injection e2 with e2 e3
        injection he with he; injection he with h1 h2; injection h2 with h2 h3; subst h1; subst h2; subst h3
        exact aop_range ho hu (hp.trans e2)
      · cases he
    · cases hc
  · rename_i x ho
    injection hc with hc; injection hc with e1 e2; subst e1; subst e2
    simp only [List.map_cons, List.map_nil, ev1] at he
    generalize hp : s.ev G x = p at he
    unfold hxM at he
    split at he
    all_goals (first | (rename_i e _; cases e; done) | (rename_i e; cases e; done) | skip)
    · rename_i b e1 e2
      injection e2 with e2 e3
      split at he
      · rename_i st pos hl
        split at he
        · rename_i hlt
          injection he with he; injection he with h1 h2; injection h2 with h2 h3; subst h1; subst h2; subst h3
          exact aop_next ho (hp.trans e2) hl hlt
        · rename_i hlt
          injection he with he; injection he with h1 h2; injection h2 with h2 h3; subst h1; subst h2; subst h3
          exact aop_over ho (hp.trans e2) hl hlt
      · cases he
    · cases he
  · rename_i src dst x ho
    split at hc
    · rename_i e hs hd
      split at hc
      · rename_i he'
        injection hc with hc; injection hc with e1 e2; subst e1; subst e2
        simp only [List.map_cons, List.map_nil, ev1] at he
        generalize hp : s.ev G x = p at he
        unfold hxM at he
        split at he
        all_goals (first | (rename_i e _; cases e; done) | (rename_i e; cases e; done) | skip)
        · rename_i q e1 e2
          injection e2 with e2 e3
          split at he
          · rename_i cs hcs
            obtain ⟨l, hl, e4⟩ := Option.map_eq_some_iff.1 he
            injection e4 with h1 h2; injection h2 with h2 h3; subst h1; subst h2; subst h3
            exact aop_b2s ho hs hd he' (by rw [hp, e2]; exact hcs) hl
          · cases he
        · rename_i hno
          exact (hno p rfl rfl).elim
      · cases hc
    · cases hc
  · cases hc
end
end Go.Abs

namespace Go.Abs
set_option linter.unusedSimpArgs false
set_option linter.unusedVariables false
open Go

def loadM (agg : Bool) (n : Nat) (H : Heap) (p : PV) : Option PV :=
  match p with
  | .t (.pt cs) => if agg then (if n ≤ cs.length then some (.t (.ag (cs.take n))) else none) else (cs.head?).map .t
  | .ptr b o => match look H b with
    | some (.cells _ cs) => if agg then (if o + n ≤ cs.length then some (agOf ((cs.drop o).take n)) else none) else cs[o]?
    | _ => none
  | _ => none

theorem loadM_eq {P : Program} {t : TypeId} {agg : Bool} {n : Nat} (h : shapeOf P t = some (agg, n)) (H : Heap) (p : PV) : loadV P H t p = loadM agg n H p := by
  unfold loadV loadM
  rw [h]
  cases agg <;> cases p <;> try rfl
  all_goals (rename_i x; cases x <;> rfl)

def iaddrM (z : Nat) (x i : PV) : Option PV :=
  match i with
  | .t (.v (.int _ i)) => match x with
    | .t (.sl n cs) => if 0 ≤ i ∧ i < n then some (.t (.pt (cs.drop (i.toNat * z)))) else none
    | .row b o n _ => if 0 ≤ i ∧ i < n then some (.ptr b (o + i.toNat * z)) else none
    | _ => none
  | _ => none

def aaddrM (n z : Nat) (x i : PV) : Option PV :=
  match i with
  | .t (.v (.int _ i)) => match x with
    | .t (.pt cs) => if 0 ≤ i ∧ i < n then some (.t (.pt (cs.drop (i.toNat * z)))) else none
    | .ptr b o => if 0 ≤ i ∧ i < n then some (.ptr b (o + i.toNat * z)) else none
    | _ => none
  | _ => none

theorem iaddrM_sub {P : Program} {t e : TypeId} {z : Nat} (h : elemOf' P t = some (e, z)) {x i r : PV} (hr : iaddrM z x i = some r) : indexAddrV P t x i = some r := by
  unfold iaddrM at hr
  split at hr
  · split at hr
    · simp only [indexAddrV, h]; exact hr
    · simp only [indexAddrV, h]; exact hr
    · cases hr
  · cases hr

theorem aaddrM_sub {P : Program} {t : TypeId} {n z : Nat} (h : arrOf P t = some (n, z)) {x i r : PV} (hr : aaddrM n z x i = some r) : indexAddrV P t x i = some r := by
  unfold aaddrM at hr
  split at hr
  · split at hr
    · simp only [indexAddrV, h]; exact hr
    · simp only [indexAddrV, h]; exact hr
    · cases hr
  · cases hr

@[simp] def faddrM (off : Nat) (x : PV) : Option PV :=
  match x with
  | .t (.pt cs) => some (.t (.pt (cs.drop off)))
  | .ptr b o => some (.ptr b (o + off))
  | _ => none

theorem faddrM_eq {P : Program} {t : TypeId} {f off n : Nat} {b : Bool} (h : fieldOf P t f = some (off, b, n)) (x : PV) : fieldAddrV P t x f = faddrM off x := by
  unfold fieldAddrV faddrM
  rw [h]
  cases x <;> try rfl
  rename_i x; cases x <;> rfl

def fieldM (off : Nat) (agg : Bool) (n : Nat) (x : PV) : Option PV :=
  match x with
  | .t (.ag cs) => if agg then (if off + n ≤ cs.length then some (.t (.ag ((cs.drop off).take n))) else none) else (cs[off]?).map .t
  | .ag cs => if agg then (if off + n ≤ cs.length then some (agOf ((cs.drop off).take n)) else none) else cs[off]?
  | _ => none

theorem fieldM_eq {P : Program} {t : TypeId} {f off n : Nat} {b : Bool} (h : fieldOf P t f = some (off, b, n)) (x : PV) : fieldV P t x f = fieldM off b n x := by
  unfold fieldV fieldM
  rw [h]
  cases b <;> cases x <;> try rfl
  all_goals (rename_i x; cases x <;> rfl)

def indexM (x i : PV) : Option PV :=
  match x, i with
  | .t (.v (.string s)), .t (.v (.int _ i)) => if 0 ≤ i then (s[i.toNat]?).map fun b => .t (.v (.int .u8 b.toNat)) else none
  | _, _ => none

theorem indexM_sub {P : Program} {t : TypeId} (h : P.underlying t = some .string) {x i r : PV} (hr : indexM x i = some r) : indexV P t x i = some r := by
  unfold indexM at hr
  split at hr
  · simp only [indexV, h]; exact hr
  · cases hr

def slstrM (x : PV) (lo hi : Option PV) : Option PV :=
  match x with
  | .t (.v (.string s)) => match boundV lo 0, boundV hi s.size with
    | some l, some h => if l ≤ h ∧ h ≤ s.size then some (.t (.v (.string (s.extract l h)))) else none
    | _, _ => none
  | _ => none

theorem slstrM_sub {P : Program} {t : TypeId} (h : P.underlying t = some .string) {x r : PV} {lo hi : Option PV} (hr : slstrM x lo hi = some r) : sliceV P t x lo hi = some r := by
  unfold slstrM at hr
  split at hr
  · simp only [sliceV, h]; exact hr
  · cases hr

def sliceM (z : Nat) (x : PV) (lo hi : Option PV) : Option PV :=
  match x with
  | .t (.v (.slice none n c)) => match boundV lo 0, boundV hi n with
    | some l, some h => if l = 0 ∧ h = 0 ∧ n = 0 ∧ c = 0 then some (.t (.v (.slice none 0 0))) else none
    | _, _ => none
  | .t (.sl n cs) => match boundV lo 0, boundV hi n with
    | some l, some h => if l ≤ h ∧ h ≤ n then some (.t (.sl (h - l) ((cs.drop (l * z)).take ((h - l) * z)))) else none
    | _, _ => none
  | .row b o n z' => match boundV lo 0, boundV hi n with
    | some l, some h => if z ≠ z' then none else if l < h ∧ h ≤ n then some (.row b (o + l * z') (h - l) z') else if l = 0 ∧ h = 0 then some (.row b o 0 z') else if l = h ∧ h ≤ n then some (.t (.sl 0 [])) else none
    | _, _ => none
  | _ => none

theorem sliceM_sub {P : Program} {t e : TypeId} {z : Nat} (h : elemOf' P t = some (e, z)) {x r : PV} {lo hi : Option PV} (hr : sliceM z x lo hi = some r) : sliceV P t x lo hi = some r := by
  have hu : P.underlying t = some (.slice e) := by
    unfold elemOf' at h
    split at h
    · rename_i e' hu
      cases hi : P.info? e' with
      | none => rw [hi] at h; cases h
      | some i => rw [hi] at h; injection h with h; injection h with h1 h2; subst h1; exact hu
    · cases h
  unfold sliceM at hr
  split at hr
  · split at hr
    · rename_i el eh
      simp only [sliceV, hu, h, el, eh]; exact hr
    · cases hr
  · split at hr
    · rename_i el eh
      simp only [sliceV, hu, h, el, eh]; exact hr
    · cases hr
  · split at hr
    · rename_i el eh
      simp only [sliceV, hu, h, el, eh]; exact hr
    · cases hr
  · cases hr

@[simp] def lenstrM : PV → Option PV
  | .t (.v (.string s)) => some (.t (.v (.int .i64 s.size)))
  | _ => none
def lenslM : PV → Option PV
  | .t (.v (.slice _ n _)) => some (.t (.v (.int .i64 n)))
  | .t (.sl n _) => some (.t (.v (.int .i64 n)))
  | .row _ _ n _ => some (.t (.v (.int .i64 n)))
  | _ => none

@[simp] def convM (k : Option IntKind) : PV → Option PV
  | .t (.v (.int _ n)) => match k with
    | some k => some (.t (.v (.int k (k.wrap n))))
    | none => none
  | .t (.v (.string s)) => match k with
    | none => some (.t (.v (.string s)))
    | _ => none
  | _ => none

@[simp] def chkM : PV → Option PV
  | .ptr b o => some (.ptr b o)
  | .t (.pt cs) => some (.t (.pt cs))
  | .fn (.func f) first cap => some (.fn (.func f) first cap)
  | .t (.v (.func (.func f) x y)) => some (.t (.v (.func (.func f) x y)))
  | _ => none

def storeM (n : Nat) (H : Heap) (p x : PV) : Option Heap :=
  match p with
  | .ptr b o => match cellsP x with
    | some ps => match look H b with
      | some (.cells ty cs) => if ps.length = n ∧ o + ps.length ≤ cs.length then some (upd H b (.cells ty (splice cs o ps))) else none
      | _ => none
    | none => none
  | _ => none

theorem storeM_sub {P : Program} {t : TypeId} {b : Bool} {n : Nat} (h : shapeOf P t = some (b, n)) {H H' : Heap} {p x : PV} (hr : storeM n H p x = some H') : storeV P H t p x = some H' := by
  unfold storeM at hr
  split at hr
  · split at hr
    · rename_i hps
      simp only [storeV, h, hps]
      exact hr
    · cases hr
  · cases hr

def makeM (e n by' : Nat) (zc : List Value) (l c : PV) (nx : Nat) : Option (PV × Row) :=
  match l, c with
  | .t (.v (.int _ l)), .t (.v (.int _ c)) => if 0 ≤ l ∧ l ≤ c ∧ c ≤ 9223372036854775807 ∧ (by' : Int) * c ≤ 281474976710656 then some (.row nx 0 l.toNat n, .cells e (zeros zc l.toNat)) else none
  | _, _ => none

theorem makeM_sub {P : Program} {t e n by' : Nat} {zc : List Value} (h : elemInfo P t = some (e, n, by', zc)) {l c : PV} {nx : Nat} {q : PV × Row} (hr : makeM e n by' zc l c nx = some q) : makeV P t l c nx = some q := by
  unfold makeM at hr
  split at hr
  · simp only [makeV, h]; exact hr
  · cases hr

def bsliceM (e n : Nat) (zc : List Value) (len : Nat) (parts : List (Nat × PV)) (nx : Nat) : Option (PV × Row) :=
  if len * n ≤ 16777216 then (fillP (fun i => some (i * n, n)) (zeros zc len) parts).map fun cs => (.row nx 0 len n, .cells e cs) else none

def appM (e z by' : Nat) (H : Heap) (nx : Nat) (d x : PV) : Option (PV × Heap × Nat) :=
  match srcP H z x with
  | some (m, ps) => match d with
    | .t (.v (.slice none n c)) => if n = 0 ∧ c = 0 then
        (if m = 0 then some (.t (.v (.slice none n c)), H, nx) else if m * by' ≤ 140737488355328 ∧ m ≤ 9223372036854775807 then some (.row nx 0 m z, (nx, .cells e ps) :: H, nx + 1) else none) else none
    | .row b o n z' => match look H b with
      | some (.cells ty cs) =>
        if z' = z ∧ o = 0 ∧ ty = e ∧ cs.length = n * z ∧ (n + m) * by' ≤ 140737488355328 ∧ n + m ≤ 9223372036854775807 then some (.row nx 0 (n + m) z, (nx, .cells e (cs ++ ps)) :: rem H b, nx + 1) else none
      | _ => none
    | _ => none
  | none => none

theorem appM_sub {P : Program} {t e z by' : Nat} {zc : List Value} (h : elemInfo P t = some (e, z, by', zc)) {H : Heap} {nx : Nat} {d x : PV} {q : PV × Heap × Nat} (hr : appM e z by' H nx d x = some q) : appendV P H nx t d x = some q := by
  unfold appM at hr
  split at hr
  · rename_i m ps hs
    split at hr
    · simp only [appendV, h, hs]; exact hr
    · simp only [appendV, h, hs]; exact hr
    · cases hr
  · cases hr

/-- A slice's literal whose row is never written again. -/
def tsliceM (e n : Nat) (zc : List Value) (len : Nat) (parts : List (Nat × PV)) : Option PV :=
  match bsliceM e n zc len parts 0 with
  | some (_, .cells _ cs) => match allT cs with
    | some ts => if ts.length = len * n then some (.t (.sl len ts)) else none
    | none => none
  | _ => none

/-- An operation's value, and the rows behind it. -/
def evalK (Φ : Oracle) (H : Heap) (nx : Nat) (k : MK) (ps : List PV) : Option (PV × Heap × Nat) :=
  match k, ps with
  | .mv, [x] => some (x, H, nx)
  | .pick, [c, a, b] => match c with
    | .t (.v (.bool t)) => some (bif t then a else b, H, nx)
    | _ => none
  | .bin isB op nk, [x, y] => match x, y with
    | .t (.v a), .t (.v b) => match binM isB op a b with
      | some v => some (.t (.v v), H, nx)
      | none => (cmpM op nk (.t (.v a))).map fun r => (r, H, nx)
    | x, _ => (cmpM op nk x).map fun r => (r, H, nx)
  | .un op, [x] => match x with
    | .t (.v a) => (unV op a).map fun v => (.t (.v v), H, nx)
    | _ => none
  | .conv k, [x] => (convM k x).map fun r => (r, H, nx)
  | .load agg n, [p] => (loadM agg n H p).map fun r => (r, H, nx)
  | .faddr off, [x] => (faddrM off x).map fun r => (r, H, nx)
  | .field off agg n, [x] => (fieldM off agg n x).map fun r => (r, H, nx)
  | .iaddr z, [x, i] => (iaddrM z x i).map fun r => (r, H, nx)
  | .aaddr n z, [x, i] => (aaddrM n z x i).map fun r => (r, H, nx)
  | .index, [x, i] => (indexM x i).map fun r => (r, H, nx)
  | .slstr false false, [x] => (slstrM x none none).map fun r => (r, H, nx)
  | .slstr true false, [x, l] => (slstrM x (some l) none).map fun r => (r, H, nx)
  | .slstr false true, [x, h] => (slstrM x none (some h)).map fun r => (r, H, nx)
  | .slstr true true, [x, l, h] => (slstrM x (some l) (some h)).map fun r => (r, H, nx)
  | .slice z false false, [x] => (sliceM z x none none).map fun r => (r, H, nx)
  | .slice z true false, [x, l] => (sliceM z x (some l) none).map fun r => (r, H, nx)
  | .slice z false true, [x, h] => (sliceM z x none (some h)).map fun r => (r, H, nx)
  | .slice z true true, [x, l, h] => (sliceM z x (some l) (some h)).map fun r => (r, H, nx)
  | .ext i, [x] => (extractV x i).map fun r => (r, H, nx)
  | .chk, [x] => (chkM x).map fun r => (r, H, nx)
  | .lenstr, [x] => (lenstrM x).map fun r => (r, H, nx)
  | .lensl, [x] => (lenslM x).map fun r => (r, H, nx)
  | .min, [x, y] => (minV x y).map fun r => (r, H, nx)
  | .max, [x, y] => (maxV x y).map fun r => (r, H, nx)
  | .store n, [p, x] => (storeM n H p x).map fun H' => (.t (.v undef), H', nx)
  | .make e n by' zc, [l, c] => (makeM e n by' zc l c nx).map fun q => (q.1, (nx, q.2) :: H, nx + 1)
  | .bslice e n zc len idx, ps => (bsliceM e n zc len (idx.zip ps) nx).map fun q => (q.1, (nx, q.2) :: H, nx + 1)
  | .build places zc idx, ps => (fillP (fun k => places[k]?) (zc.map fun x => .t (.v x)) (idx.zip ps)).map fun cs => (agOf cs, H, nx)
  | .barr n zc idx, ps => (fillP (fun k => some (k * n, n)) (zc.map fun x => .t (.v x)) (idx.zip ps)).map fun cs => (agOf cs, H, nx)
  | .box t, [x] => (cellsP x).map fun ps => (.ptr nx 0, (nx, .cells t ps) :: H, nx + 1)
  | .alloc t zc, [] => some (.ptr nx 0, (nx, .cells t (zc.map fun x => .t (.v x))) :: H, nx + 1)
  | .app e z by', [d, x] => appM e z by' H nx d x
  | .call f, ps => match toTs H ps with
    | some (targs, F) => match Φ f targs with
      | some r => some (.t r, if F.isEmpty then H else if plainT r then H else remAll H F, nx)
      | none => none
    | none => none
  | .hcall f, ps => Φ.h f ps H nx
  | .tslice e n zc len idx, ps => (tsliceM e n zc len (idx.zip ps)).map fun r => (r, H, nx)
  | .callv, fv :: ps => callvM Φ H nx fv ps
  | .ex e, ps => (exM e ps).map fun r => (r, H, nx)
  | .hx h, ps => hxM h H nx ps
  | _, _ => none

/-- The compact form of an operation. -/
def compOp (P : Program) (G : Globs) (o : Op) : Option (MK × List Opd) :=
  match o with
  | .move x => some (.mv, [compOpd G x])
  | .assign x => some (.mv, [compOpd G x])
  | .pick c a b => some (.pick, [compOpd G c, compOpd G a, compOpd G b])
  | .binOp op t x y _ => some (.bin (isBoolT P t) op (nkOf P t y), [compOpd G x, compOpd G y])
  | .unOp op _ x => some (.un op, [compOpd G x])
  | .convert src dst x => match P.underlying src, P.underlying dst with
    | some _, some (.int k) => some (.conv (some k), [compOpd G x])
    | some _, some .string => some (.conv none, [compOpd G x])
    | _, _ => none
  | .load t a => (shapeOf P t).map fun q => (.load q.1 q.2, [compOpd G a])
  | .fieldAddr t x f => (fieldOf P t f).map fun q => (.faddr q.1, [compOpd G x])
  | .field t x f => (fieldOf P t f).map fun q => (.field q.1 q.2.1 q.2.2, [compOpd G x])
  | .indexAddr t x i => match elemOf' P t with
    | some (_, z) => some (.iaddr z, [compOpd G x, compOpd G i])
    | none => (arrOf P t).map fun q => (.aaddr q.1 q.2, [compOpd G x, compOpd G i])
  | .index t x i => match P.underlying t with
    | some .string => some (.index, [compOpd G x, compOpd G i])
    | _ => none
  | .slice t x lo hi none => match P.underlying t with
    | some .string => some (.slstr lo.isSome hi.isSome, compOpd G x :: ((lo.map (compOpd G)).toList ++ (hi.map (compOpd G)).toList))
    | _ => match elemOf' P t with
      | some (_, z) => some (.slice z lo.isSome hi.isSome, compOpd G x :: ((lo.map (compOpd G)).toList ++ (hi.map (compOpd G)).toList))
      | none => none
  | .extract x i => some (.ext i, [compOpd G x])
  | .nilCheck x => some (.chk, [compOpd G x])
  | .store t a x => (shapeOf P t).map fun q => (.store q.2, [compOpd G a, compOpd G x])
  | .makeSlice t l c => (elemInfo P t).map fun q => (.make q.1 q.2.1 q.2.2.1 q.2.2.2, [compOpd G l, compOpd G c])
  | .buildSlice t len parts => (elemInfo P t).map fun q => (.bslice q.1 q.2.1 q.2.2.2 len (parts.toList.map (·.1)), parts.toList.map fun p => compOpd G p.2)
  | .build t parts => match P.underlying t, zeroCellsOf P t with
    | some (.array _ e), some zc => (P.info? e).map fun i => (.barr i.size zc (parts.toList.map (·.1)), parts.toList.map fun p => compOpd G p.2)
    | some (.struct fields), some zc => (fields.toList.mapM (fun f => (P.info? f.type).map fun i => (f.offset, i.size))).map fun places => (.build places zc (parts.toList.map (·.1)), parts.toList.map fun p => compOpd G p.2)
    | _, _ => none
  | .box t x => some (.box t, [compOpd G x])
  | .alloc t => (zeroCellsOf P t).map fun zc => (.alloc t zc, [])
  | .call ⟨.builtin .append, ⟨[x, y]⟩, ⟨[t, t']⟩⟩ => if t = t' then (elemInfo P t).map fun q => (.app q.1 q.2.1 q.2.2.1, [compOpd G x, compOpd G y]) else none
  | .call ⟨.builtin .len, ⟨[x]⟩, ⟨[t]⟩⟩ => match P.underlying t with
    | some .string => some (.lenstr, [compOpd G x])
    | some (.slice _) => some (.lensl, [compOpd G x])
    | _ => none
  | .call ⟨.builtin .min, ⟨[x, y]⟩, _⟩ => some (.min, [compOpd G x, compOpd G y])
  | .call ⟨.builtin .max, ⟨[x, y]⟩, _⟩ => some (.max, [compOpd G x, compOpd G y])
  | .call ⟨.value (.func f), args, ts⟩ => if ts.toList.any (refT P) || hot.contains f then some (.hcall f, args.toList.map (compOpd G)) else some (.call f, args.toList.map (compOpd G))
  | .call ⟨.value x, args, _⟩ => some (.callv, compOpd G x :: args.toList.map (compOpd G))
  | _ => some (.bad, [])

theorem zip_parts (G : Globs) (s : AState) (parts : List (Nat × Operand)) : (parts.map (·.1)).zip ((parts.map fun p => compOpd G p.2).map (·.ev s.env)) = parts.map fun p => (p.1, s.ev G p.2) := by
  induction parts with
  | nil => rfl
  | cons p r ih => simp only [List.map_cons, List.zip_cons_cons, ih, compOpd_ev]

theorem map_opt {α β : Type} {x : Option α} {f : α → β} {y : β} (h : x.map f = some y) : ∃ a, x = some a ∧ f a = y := by
  cases x with
  | none => cases h
  | some a => exact ⟨a, rfl, by simpa using h⟩

theorem compOp_sound {P : Program} {G : Globs} {Φ : Oracle} {s : AState} {o : Op} {k : MK} {xs : List Opd} {q : PV × Heap × Nat} (hc : compOp P G o = some (k, xs))
    (he : evalK Φ s.H s.nx k (xs.map (·.ev s.env)) = some q) : valV P G Φ s o = some q := by
  have ev1 := fun x => compOpd_ev G s x
  unfold compOp at hc
  split at hc
  · rename_i x
    injection hc with hc; injection hc with h1 h2; subst h1; subst h2
    simp only [List.map_cons, List.map_nil, evalK, ev1] at he
    simpa [valV, opV, lightV] using he
  · rename_i x
    injection hc with hc; injection hc with h1 h2; subst h1; subst h2
    simp only [List.map_cons, List.map_nil, evalK, ev1] at he
    simpa [valV, opV, lightV] using he
  · rename_i c a b
    injection hc with hc; injection hc with h1 h2; subst h1; subst h2
    simp only [List.map_cons, List.map_nil, evalK, ev1] at he
    simp only [valV, opV, lightV]
    split at he
    · rename_i t ht; rw [ht]; simpa using he
    · cases he
  · rename_i op t x y yt
    injection hc with hc; injection hc with h1 h2; subst h1; subst h2
    simp only [List.map_cons, List.map_nil, evalK, ev1] at he
    simp only [valV, opV, lightV]
    split at he
    · rename_i a b ha hb
      rw [ha, hb]
      simp only [binM_eq]
      split at he
      · rename_i v hv; rw [hv]; simpa using he
      · rename_i hv
        rw [hv]
        obtain ⟨r, hr, rfl⟩ := map_opt he
        simp [cmpM_sub P op t _ y hr]
    · rename_i hne
      obtain ⟨r, hr, rfl⟩ := map_opt he
      have hcm := cmpM_sub P op t _ y hr
      split
      · rename_i a b ha hb; exact absurd hb (hne a b ha)
      · simp [hcm]
  · rename_i op t x
    injection hc with hc; injection hc with h1 h2; subst h1; subst h2
    simp only [List.map_cons, List.map_nil, evalK, ev1] at he
    simp only [valV, opV, lightV]
    split at he
    · rename_i a ha
      rw [ha]
      obtain ⟨v, hv, rfl⟩ := map_opt he
      simp only [hv, Option.map_some, Option.some.injEq]
    · cases he
  · rename_i src dst x
    simp only [valV, opV, lightV]
    split at hc
    · rename_i d k' hs hd
      injection hc with hc; injection hc with h1 h2; subst h1; subst h2
      simp only [List.map_cons, List.map_nil, evalK, ev1] at he
      obtain ⟨r, hr, rfl⟩ := map_opt he
      unfold convM at hr
      split at hr
      · rename_i n hx
        rw [hx]
        simp only [convV, hs, hd]
        simpa using hr
      · simp at hr
      · cases hr
    · rename_i d hs hd
      injection hc with hc; injection hc with h1 h2; subst h1; subst h2
      simp only [List.map_cons, List.map_nil, evalK, ev1] at he
      obtain ⟨r, hr, rfl⟩ := map_opt he
      unfold convM at hr
      split at hr
      · simp at hr
      · rename_i n hx
        rw [hx]
        simp only [convV, hs, hd]
        simpa using hr
      · cases hr
    · cases hc
  · rename_i t a
    obtain ⟨⟨b, n⟩, hq, h⟩ := map_opt hc
    injection h with h1 h2; subst h1; subst h2
    simp only [List.map_cons, List.map_nil, evalK, ev1] at he
    simpa [valV, opV, lightV, loadM_eq hq] using he
  · rename_i t x f
    obtain ⟨⟨off, b, n⟩, hq, h⟩ := map_opt hc
    injection h with h1 h2; subst h1; subst h2
    simp only [List.map_cons, List.map_nil, evalK, ev1] at he
    simpa [valV, opV, lightV, faddrM_eq hq] using he
  · rename_i t x f
    obtain ⟨⟨off, b, n⟩, hq, h⟩ := map_opt hc
    injection h with h1 h2; subst h1; subst h2
    simp only [List.map_cons, List.map_nil, evalK, ev1] at he
    simpa [valV, opV, lightV, fieldM_eq hq] using he
  · rename_i t x i
    split at hc
    · rename_i e z hz
      injection hc with hc; injection hc with h1 h2; subst h1; subst h2
      simp only [List.map_cons, List.map_nil, evalK, ev1] at he
      obtain ⟨r, hr, rfl⟩ := map_opt he
      simp [valV, opV, lightV, iaddrM_sub hz hr]
    · obtain ⟨⟨n, z⟩, hq, h⟩ := map_opt hc
      injection h with h1 h2; subst h1; subst h2
      simp only [List.map_cons, List.map_nil, evalK, ev1] at he
      obtain ⟨r, hr, rfl⟩ := map_opt he
      simp [valV, opV, lightV, aaddrM_sub hq hr]
  · rename_i t x i
    split at hc
    · rename_i hu
      injection hc with hc; injection hc with h1 h2; subst h1; subst h2
      simp only [List.map_cons, List.map_nil, evalK, ev1] at he
      obtain ⟨r, hr, rfl⟩ := map_opt he
      simp [valV, opV, lightV, indexM_sub hu hr]
    · cases hc
  · rename_i t x lo hi
    split at hc
    · rename_i hu
      injection hc with hc; injection hc with h1 h2; subst h1; subst h2
      cases lo <;> cases hi <;> simp only [Option.isSome_none, Option.isSome_some, Option.map_none, Option.map_some, Option.toList_none, Option.toList_some, List.nil_append, List.append_nil, List.cons_append, List.map_cons, List.map_nil, evalK, ev1] at he
      all_goals (obtain ⟨r, hr, rfl⟩ := map_opt he; simp [valV, opV, lightV, slstrM_sub hu hr])
    · split at hc
      · rename_i e z hz
        injection hc with hc; injection hc with h1 h2; subst h1; subst h2
        cases lo <;> cases hi <;> simp only [Option.isSome_none, Option.isSome_some, Option.map_none, Option.map_some, Option.toList_none, Option.toList_some, List.nil_append, List.append_nil, List.cons_append, List.map_cons, List.map_nil, evalK, ev1] at he
        all_goals (obtain ⟨r, hr, rfl⟩ := map_opt he; simp [valV, opV, lightV, sliceM_sub hz hr])
      · cases hc
  · rename_i x i
    injection hc with hc; injection hc with h1 h2; subst h1; subst h2
    simp only [List.map_cons, List.map_nil, evalK, ev1] at he
    simpa [valV, opV, lightV] using he
  · rename_i x
    injection hc with hc; injection hc with h1 h2; subst h1; subst h2
    simp only [List.map_cons, List.map_nil, evalK, ev1] at he
    simp only [valV, opV, lightV]
    obtain ⟨r, hr, rfl⟩ := map_opt he
    unfold chkM at hr
    split at hr
    all_goals (first | (cases hr; done) | (rename_i hx; rw [hx]; simpa using hr))
  · rename_i t a x
    obtain ⟨⟨b, n⟩, hq, h⟩ := map_opt hc
    injection h with h1 h2; subst h1; subst h2
    simp only [List.map_cons, List.map_nil, evalK, ev1] at he
    obtain ⟨H', hr, rfl⟩ := map_opt he
    simp [valV, opV, storeM_sub hq hr]
  · rename_i t l c
    obtain ⟨⟨e, n, by', zc⟩, hq, h⟩ := map_opt hc
    injection h with h1 h2; subst h1; subst h2
    simp only [List.map_cons, List.map_nil, evalK, ev1] at he
    obtain ⟨r, hr, rfl⟩ := map_opt he
    simp [valV, opV, makeM_sub hq hr]
  · rename_i t len parts
    obtain ⟨⟨e, n, by', zc⟩, hq, h⟩ := map_opt hc
    injection h with h1 h2; subst h1; subst h2
    simp only [evalK, zip_parts] at he
    obtain ⟨r, hr, rfl⟩ := map_opt he
    have : buildSliceV P t len (parts.toList.map fun p => (p.1, s.ev G p.2)) s.nx = some r := by
      simp only [buildSliceV, hq]; exact hr
    simp [valV, opV, this]
  · rename_i t parts
    split at hc
    · rename_i n e zc hu hz
      obtain ⟨i, hq, h⟩ := map_opt hc
      injection h with h1 h2; subst h1; subst h2
      simp only [evalK, zip_parts] at he
      obtain ⟨cs, hr, rfl⟩ := map_opt he
      simp [valV, opV, buildV, placeOf, hu, hq, hz, hr]
    · rename_i fields zc hu hz
      obtain ⟨places, hq, h⟩ := map_opt hc
      injection h with h1 h2; subst h1; subst h2
      simp only [evalK, zip_parts] at he
      obtain ⟨cs, hr, rfl⟩ := map_opt he
      simp [valV, opV, buildV, placeOf, hu, hq, hz, hr]
    · cases hc
  · rename_i t x
    injection hc with hc; injection hc with h1 h2; subst h1; subst h2
    simp only [List.map_cons, List.map_nil, evalK, ev1] at he
    simpa [valV, opV] using he
  · rename_i t
    obtain ⟨zc, hq, h⟩ := map_opt hc
    injection h with h1 h2; subst h1; subst h2
    simp only [List.map_nil, evalK] at he
    simpa [valV, opV, hq] using he
  · rename_i x y t t'
    split at hc
    · rename_i e
      subst e
      obtain ⟨⟨e, n, by', zc⟩, hq, h⟩ := map_opt hc
      injection h with h1 h2; subst h1; subst h2
      simp only [List.map_cons, List.map_nil, evalK, ev1] at he
      simp [valV, opV, appM_sub hq he]
    · cases hc
  · rename_i x t
    split at hc
    · rename_i hu
      injection hc with hc; injection hc with h1 h2; subst h1; subst h2
      simp only [List.map_cons, List.map_nil, evalK, ev1] at he
      obtain ⟨r, hr, rfl⟩ := map_opt he
      unfold lenstrM at hr
      split at hr
      · rename_i st hx
        have : lenV P t (s.ev G x) = some r := by rw [hx]; simp only [lenV, hu]; exact hr
        simp [valV, opV, lightV, builtinV, this]
      · cases hr
    · rename_i e hu
      injection hc with hc; injection hc with h1 h2; subst h1; subst h2
      simp only [List.map_cons, List.map_nil, evalK, ev1] at he
      obtain ⟨r, hr, rfl⟩ := map_opt he
      unfold lenslM at hr
      split at hr
      all_goals (first | (cases hr; done) | skip)
      all_goals
        rename_i hx
        have : lenV P t (s.ev G x) = some r := by rw [hx]; simp only [lenV, hu]; exact hr
        simp [valV, opV, lightV, builtinV, this]
    · cases hc
  · rename_i x y ts
    injection hc with hc; injection hc with h1 h2; subst h1; subst h2
    simp only [List.map_cons, List.map_nil, evalK, ev1] at he
    simpa [valV, opV, lightV, builtinV] using he
  · rename_i x y ts
    injection hc with hc; injection hc with h1 h2; subst h1; subst h2
    simp only [List.map_cons, List.map_nil, evalK, ev1] at he
    simpa [valV, opV, lightV, builtinV] using he
  · rename_i f args ts
    have e : (args.toList.map (compOpd G)).map (·.ev s.env) = args.toList.map (s.ev G) := by
      rw [List.map_map]
      exact List.map_congr_left fun x _ => ev1 x
    split at hc
    · rename_i hr
      injection hc with hc; injection hc with h1 h2; subst h1; subst h2
      simp only [evalK, e] at he
      simp only [valV, hr, if_true]
      exact he
    · rename_i hr
      injection hc with hc; injection hc with h1 h2; subst h1; subst h2
      simp only [evalK, e] at he
      simp only [valV, hr, Bool.false_eq_true, if_false]
      exact he
  · rename_i x args ts hne
    injection hc with hc; injection hc with h1 h2; subst h1; subst h2
    have e : (args.toList.map (compOpd G)).map (·.ev s.env) = args.toList.map (s.ev G) := by
      rw [List.map_map]
      exact List.map_congr_left fun x _ => ev1 x
    simp only [List.map_cons, evalK, e, ev1] at he
    unfold valV
    split
    · rename_i f' a' t' heq
      injection heq with heq
      injection heq with h1 h2 h3
      injection h1 with h1
      exact absurd h1 (hne f')
    · rename_i x' a' t' _ heq
      injection heq with heq
      injection heq with h1 h2 h3
      injection h1 with h1
      subst h1; subst h2
      exact he
    · rename_i h1 h2
      exact absurd rfl (h2 _ _ _)
  · injection hc with hc; injection hc with h1 h2; subst h1; subst h2
    simp [evalK] at he

/-- The compact form of an operation, whatever it is; d: in a region that draws its order, where a slice's literal is a tree at once. -/
def opK (P : Program) (G : Globs) (d : Bool) (o : Op) : MK × List Opd :=
  match extK P G o with
  | some q => q
  | none =>
  match d, o with
  | true, .buildSlice t len parts => match elemInfo P t with
    | some q => (.tslice q.1 q.2.1 q.2.2.2 len (parts.toList.map (·.1)), parts.toList.map fun p => compOpd G p.2)
    | none => (.bad, [])
  | _, o => match compOp P G o with
    | some q => q
    | none => (.bad, [])

theorem opK_aop {P : Program} {G : Globs} {B : Nat} {Φ : Oracle} {s : AState} {o : Oper} {d : Bool} {k : MK} {xs : List Opd} (hΦ : Φ.Sound P G) (hc : opK P G d o.op = (k, xs)) {r : PV} {H' : Heap} {nx' : Nat}
    (he : evalK Φ s.H s.nx k (xs.map (·.ev s.env)) = some (r, H', nx')) : AOp P G B o s r H' nx' := by
  unfold opK at hc
  split at hc
  · rename_i q hq
    subst hc
    refine ext_aop hq ?_
    cases k <;> simp only
    case ex e =>
      simp only [evalK] at he
      obtain ⟨p, hp, e1⟩ := map_opt he
      exact ⟨p, hp, e1.symm⟩
    case hx h => simpa only [evalK] using he
    all_goals (exact absurd hq (extK_kind (by simp)))
  split at hc
  · rename_i t len parts ho
    split at hc
    · rename_i q hq
      obtain ⟨e, n, by', zc⟩ := q
      injection hc with h1 h2
      subst h1; subst h2
      simp only [evalK, zip_parts] at he
      obtain ⟨x, hx, e1⟩ := map_opt he
      injection e1 with e1 e2; injection e2 with e2 e3; subst e1; subst e2; subst e3
      unfold tsliceM at hx
      split at hx
      · rename_i p0 ty cs hb
        split at hx
        · rename_i ts hts
          split at hx
          · rename_i hl
            injection hx with hx; subst hx
            unfold bsliceM at hb
            split at hb
            · rename_i hsz
              obtain ⟨cs', hf, e4⟩ := map_opt hb
              injection e4 with e4 e5; injection e5 with e5 e6; subst e6
              have hbs : buildSliceV P t len (parts.toList.map fun p => (p.1, s.ev G p.2)) s.nx = some (.row s.nx 0 len n, .cells e (ts.map .t)) := by
                simp only [buildSliceV, hq]
                rw [if_pos hsz, hf, ← allT_map hts]
                rfl
              exact aop_newT hl (run_buildSlice ho hbs)
            · cases hb
          · cases hx
        · cases hx
      · cases hx
    · injection hc with h1 h2
      subst h1
      simp [evalK] at he
  · split at hc
    · rename_i q hq
      subst hc
      exact aop_valV hΦ (compOp_sound hq he)
    · injection hc with h1 h2
      subst h1
      simp [evalK] at he

end Go.Abs

namespace Go.Abs
set_option linter.unusedSimpArgs false
set_option linter.unusedVariables false
open Go

structure Mini where
  dst : Option Nat
  k : MK
  xs : List Opd
  g : Option (Nat × Bool)

def Mini.wants (env : List (Nat × PV)) (m : Mini) : Option Bool :=
  match m.g with
  | none => some true
  | some (d, want) => match look env d with
    | some (.t (.v (.bool b))) => some (b == want)
    | some (.t (.v (.tuple _))) => some false
    | _ => none

def compMini (P : Program) (G : Globs) (N : Nat) (d : Bool) (ops : Array Oper) (o : Oper) : Option Mini :=
  match opK P G d o.op with
  | (k, xs) => if o.dst.all (· < N) then
      (match o.guard with
      | none => some ⟨o.dst, k, xs, none⟩
      | some (j, want) => match (ops[j]?).bind (·.dst) with
        | some d => some ⟨o.dst, k, xs, some (d, want)⟩
        | none => none)
    else none

theorem compMini_spec {P : Program} {G : Globs} {N : Nat} {d : Bool} {ops : Array Oper} {o : Oper} {m : Mini} (h : compMini P G N d ops o = some m) :
    opK P G d o.op = (m.k, m.xs) ∧ m.dst = o.dst ∧ (∀ k, o.dst = some k → k < N) ∧ ∀ s : AState, s.wants ops o = m.wants s.env := by
  unfold compMini at h
  split at h
  rename_i k xs hc
  split at h
  · rename_i hd
    have hd' : ∀ k, o.dst = some k → k < N := by
      intro k hk
      rw [hk] at hd
      simpa using hd
    split at h
    · rename_i hg
      injection h with h; subst h
      exact ⟨hc, rfl, hd', fun s => by simp [AState.wants, Mini.wants, hg]⟩
    · rename_i j want hg
      split at h
      · rename_i d hdd
        injection h with h; subst h
        exact ⟨hc, rfl, hd', fun s => by simp only [AState.wants, Mini.wants, hg, hdd]; rfl⟩
      · cases h
  · cases h

/-- One operation in the text's order. -/
def stepM (Φ : Oracle) (s : AState) (m : Mini) : Option AState :=
  match m.wants s.env with
  | some true => match evalK Φ s.H s.nx m.k (m.xs.map (·.ev s.env)) with
    | some (r, H', nx') => some (({ s with H := H', nx := nx' } : AState).put m.dst r)
    | none => none
  | some false => some (s.put m.dst (.t (.v undef)))
  | none => none

def runL (Φ : Oracle) : List Mini → AState → Option AState
  | [], s => some s
  | m :: r, s => match stepM Φ s m with
    | some s' => runL Φ r s'
    | none => none

section
variable {P : Program} {G : Globs} {B N : Nat} {Φ : Oracle} {d : Bool} {ops : Array Oper}

/-- The operations and their compact forms. -/
def Alike (P : Program) (G : Globs) (N : Nat) (d : Bool) (ops : Array Oper) : List Oper → List Mini → Prop
  | [], l => l = []
  | o :: r, l => ∃ m l', l = m :: l' ∧ compMini P G N d ops o = some m ∧ Alike P G N d ops r l'

theorem alike_of_mapM : ∀ {os : List Oper} {l : List Mini}, os.mapM (compMini P G N d ops) = some l → Alike P G N d ops os l
  | [], l, h => by simp at h; simp only [Alike]; exact h
  | o :: r, l, h => by
    simp only [List.mapM_cons, Option.bind_eq_bind, Option.pure_def] at h
    cases ho : compMini P G N d ops o with
    | none => rw [ho] at h; cases h
    | some m =>
      rw [ho] at h
      cases hr : r.mapM (compMini P G N d ops) with
      | none => rw [hr] at h; cases h
      | some l' =>
        rw [hr] at h
        simp only [Option.bind_some, Option.some.injEq] at h
        subst h
        simp only [Alike]
        exact ⟨m, l', rfl, ho, alike_of_mapM hr⟩

theorem Alike.at_ : ∀ {os : List Oper} {l : List Mini}, Alike P G N d ops os l → ∀ (i : Nat), (∀ o, os[i]? = some o → ∃ m, l[i]? = some m ∧ compMini P G N d ops o = some m) ∧ os.length = l.length
  | [], l, h, i => by simp only [Alike] at h; subst h; simp
  | o :: r, l, h, i => by
    simp only [Alike] at h
    obtain ⟨m, l', rfl, hm, hr⟩ := h
    refine ⟨fun o' ho' => ?_, by simp [(Alike.at_ hr 0).2]⟩
    cases i with
    | zero => simp only [List.getElem?_cons_zero, Option.some.injEq] at ho'; subst ho'; exact ⟨m, by simp, hm⟩
    | succ i => simpa using (Alike.at_ hr i).1 o' (by simpa using ho')

theorem Alike.drop : ∀ {os : List Oper} {l : List Mini} (k : Nat), Alike P G N d ops os l → Alike P G N d ops (os.drop k) (l.drop k)
  | os, l, 0, h => h
  | [], l, k + 1, h => by simp only [Alike] at h; subst h; simp [Alike]
  | o :: r, l, k + 1, h => by
    simp only [Alike] at h
    obtain ⟨m, l', rfl, hm, hr⟩ := h
    simpa using Alike.drop k hr

theorem runL_sound (hΦ : Φ.Sound P G) {Q : AState → Prop} : ∀ (os : List Oper) {l : List Mini} {s s' : AState}, Alike P G N d ops os l → s.n = N → runL Φ l s = some s' → Q s' → AOps P G B ops os Q s
  | [], l, s, s', ha, hn, h, hq => by
    simp only [Alike] at ha
    subst ha
    simp only [runL, Option.some.injEq] at h
    subst h
    exact aops_nil hq
  | o :: rest, l, s, s', ha, hn, h, hq => by
    simp only [Alike] at ha
    obtain ⟨m, l', rfl, hm, hr⟩ := ha
    obtain ⟨hc, hdst, hd, hw⟩ := compMini_spec hm
    simp only [runL] at h
    split at h
    · rename_i s1 h1
      unfold stepM at h1
      rw [← hw s] at h1
      have hd' : ∀ k, o.dst = some k → k < s.n := fun k hk => by rw [hn]; exact hd k hk
      rw [hdst] at h1
      split at h1
      · rename_i hww
        split at h1
        · rename_i r H' nx' hv
          injection h1 with h1
          subst h1
          exact aops_cons hww hd' (opK_aop hΦ hc hv) (runL_sound hΦ rest hr (by rw [put_n]; exact hn) h hq)
        · cases h1
      · rename_i hww
        injection h1 with h1
        subst h1
        exact aops_skip hww hd' (runL_sound hΦ rest hr (by rw [put_n]; exact hn) h hq)
      · cases h1
    · cases h

/-! Any order. -/

/-- Kinds of operations that leave the rows alone. -/
def quietK : MK → Bool
  | .store _ | .make _ _ _ _ | .bslice _ _ _ _ _ | .box _ | .alloc _ _ | .app _ _ _ | .hcall _ | .callv | .hx _ => false
  | _ => true

/-- The value of an operation that leaves the rows alone. -/
def evalQ (Φ : Oracle) (H : Heap) (nx : Nat) (k : MK) (ps : List PV) : Option PV :=
  if quietK k then
    (match k with
    | .call f => match toTs H ps with
      | some (targs, F) => match Φ f targs with
        | some r => if F.isEmpty || plainT r then some (.t r) else none
        | none => none
      | none => none
    | k => (evalK Φ H nx k ps).map (·.1))
  else none

theorem evalQ_evalK {H : Heap} {nx : Nat} {k : MK} {ps : List PV} {r : PV} (h : evalQ Φ H nx k ps = some r) : evalK Φ H nx k ps = some (r, H, nx) := by
  unfold evalQ at h
  split at h
  · rename_i hk
    split at h
    · rename_i f
      split at h
      · rename_i targs F hT
        split at h
        · rename_i q hq
          split at h
          · rename_i hp
            injection h with h; subst h
            simp only [evalK, hT, hq]
            cases hF : F.isEmpty with
            | true => simp
            | false =>
              rw [hF] at hp
              simp only [Bool.false_or] at hp
              simp [hp]
          · cases h
        · cases h
      · cases h
    · rename_i hnc
      obtain ⟨q, hq, rfl⟩ := map_opt h
      rw [hq]
      congr 1
      unfold evalK at hq
      split at hq
      all_goals (first
        | (simp [quietK] at hk; done)
        | (exact absurd rfl (hnc _))
        | (cases hq; done)
        | (injection hq with hq; rw [← hq]; done)
        | (obtain ⟨a, _, rfl⟩ := map_opt hq; rfl)
        | skip)
      · split at hq
        · injection hq with hq; rw [← hq]
        · cases hq
      · split at hq
        · split at hq
          · injection hq with hq; rw [← hq]
          · obtain ⟨a, _, rfl⟩ := map_opt hq; rfl
        · obtain ⟨a, _, rfl⟩ := map_opt hq; rfl
      · split at hq
        · obtain ⟨a, _, rfl⟩ := map_opt hq; rfl
        · cases hq
  · cases h

/-- The slots that an operation looks at. -/
def Mini.eyes (m : Mini) : List Nat :=
  (m.xs.filterMap fun | .tmp t => some t | _ => none) ++ (match m.g with | some (d, _) => [d] | none => [])

/-- A state, told of some slots alone. -/
def AState.only (s : AState) (ts : List Nat) : AState := { s with env := ts.filterMap fun t => (look s.env t).map fun p => (t, p) }

theorem look_only (s : AState) : ∀ (ts : List Nat) (t : Nat), look (s.only ts).env t = if t ∈ ts then look s.env t else none
  | [], t => by simp [AState.only, look]
  | u :: ts, t => by
    have ih := look_only s ts t
    simp only [AState.only] at ih ⊢
    simp only [List.filterMap_cons]
    cases hu : look s.env u with
    | none =>
      simp only [Option.map_none, ih]
      by_cases e : t = u
      · subst e; simp [hu]
      · simp [e]
    | some p =>
      simp only [Option.map_some, look]
      by_cases e : u = t
      · subst e; simp [hu]
      · rw [if_neg e, ih]
        simp [Ne.symm e]

theorem eyes_ev (s : AState) (m : Mini) (ts : List Nat) (h : ∀ t ∈ m.eyes, t ∈ ts) : m.xs.map (·.ev (s.only ts).env) = m.xs.map (·.ev s.env) := by
  refine List.map_congr_left fun x hx => ?_
  cases x with
  | tmp t =>
    have : t ∈ m.eyes := by
      unfold Mini.eyes
      exact List.mem_append_left _ (List.mem_filterMap.2 ⟨.tmp t, hx, rfl⟩)
    simp only [Opd.ev, look_only, if_pos (h t this)]
  | k p => rfl

theorem eyes_wants (s : AState) (m : Mini) (ts : List Nat) (h : ∀ t ∈ m.eyes, t ∈ ts) : m.wants (s.only ts).env = m.wants s.env := by
  unfold Mini.wants
  cases hg : m.g with
  | none => rfl
  | some q =>
    obtain ⟨d, want⟩ := q
    have : d ∈ m.eyes := by unfold Mini.eyes; rw [hg]; simp
    simp only [look_only, if_pos (h d this)]

/-- The value of an operation, in a region's first part. -/
def valQ (Φ : Oracle) (s : AState) (m : Mini) : Option PV :=
  match m.wants s.env with
  | some true => evalQ Φ s.H s.nx m.k (m.xs.map (·.ev s.env))
  | some false => some (.t (.v undef))
  | none => none

/-- Kinds of operations that do not look at the rows. -/
def indepK : MK → Bool
  | .load _ _ | .call _ => false
  | k => quietK k

/-- Kinds of operations that only make a new row. -/
def allocK : MK → Bool
  | .make _ _ _ _ | .bslice _ _ _ _ _ | .box _ | .alloc _ _ => true
  | _ => false

/-- One operation of a region that draws its order. -/
def stepD (Φ : Oracle) (s : AState) (m : Mini) : Option AState :=
  if quietK m.k then
    (match valQ Φ s m with
    | some v => some (s.put m.dst v)
    | none => none)
  else stepM Φ s m

def runD (Φ : Oracle) : List Mini → AState → Option AState
  | [], s => some s
  | m :: r, s => match stepD Φ s m with
    | some s' => runD Φ r s'
    | none => none

/-- Kinds of operations that make a new row of zeros: they may go in any order among each other. -/
def groupK : MK → Bool
  | .make _ _ _ _ | .alloc _ _ => true
  | _ => false

/-- What is asked of the operations at p and p', p before p' here: those of the group [pa, pa + k) are free among each other; the pairs of R are looked at again. -/
def okPairG (A : List Nat) (pa k : Nat) (R : List (Nat × Nat)) (p p' : Nat) (x y : Nat × Mini) : Bool :=
  (quietK x.2.k && (quietK y.2.k || indepK x.2.k || allocK y.2.k || R.contains (p, p')) || (A.getD y.1 0).testBit x.1 || decide (pa ≤ p) && decide (p' < pa + k)) &&
  ((match x.2.dst with
    | some d => !(y.2.eyes.contains d)
    | none => true) || (A.getD y.1 0).testBit x.1 && !(decide (pa ≤ p) && decide (p' < pa + k))) &&
  ((match y.2.dst with
    | some d => !(x.2.eyes.contains d)
    | none => true) || (A.getD y.1 0).testBit x.1) &&
  (match x.2.dst with
    | some d => y.2.dst != some d
    | none => true)

def allPairsG (A : List Nat) (pa k : Nat) (R : List (Nat × Nat)) : Nat → List (Nat × Mini) → Bool
  | _, [] => true
  | p, x :: r => (r.zipIdx (p + 1)).all (fun y => okPairG A pa k R p y.2 x y.1) && allPairsG A pa k R (p + 1) r

/-- The operations in the order π. -/
def ordered (l : List Mini) (π : List Nat) : List (Nat × Mini) := π.filterMap fun i => (l[i]?).map fun m => (i, m)

/-- A region that draws its order may be run in the order π. -/
def drawM (ops : Array Oper) (l : List Mini) (π : List Nat) (pa k : Nat) (R : List (Nat × Nat)) : Bool :=
  (ops.toList.zipIdx.all fun p => p.1.after.toList.all fun e => decide (e.on < p.2) || !Region.binds .any e) &&
  ((ordered l π).length == l.length) && ((List.range l.length).all fun i => π.contains i) && decide (π.Nodup) &&
  allPairsG (ancs ops.toList []) pa k R 0 (ordered l π) && decide (pa + k ≤ l.length) &&
  (((ordered l π).drop pa).take k).all fun x => groupK x.2.k && x.2.g.isNone

/-! Runs with a group, and with looks again. -/

/-- An operation of such a run: one outside the group (is it kept for a look? which ones are looked at again behind it?), or the j-th of the group. -/
inductive GI where
  | o (m : Mini) (kp : Bool) (ag : List Nat)
  | g (j : Nat) (m : Mini)

def GI.mini : GI → Mini
  | .o m _ _ => m
  | .g _ m => m

abbrev Pend := List (Nat × MK × List PV × PV)

def agnP (Φ : Oracle) (pd : Pend) (H : Heap) (nx : Nat) (ks : List Nat) : Prop := ∀ i ∈ ks, ∃ x, look pd i = some x ∧ evalQ Φ H nx x.1 x.2.1 = some x.2.2

def valD (Φ : Oracle) (s : AState) (m : Mini) : Option (PV × Heap × Nat) :=
  if quietK m.k then (valQ Φ s m).map fun v => (v, s.H, s.nx)
  else match m.wants s.env with
    | some true => evalK Φ s.H s.nx m.k (m.xs.map (·.ev s.env))
    | some false => some (.t (.v undef), s.H, s.nx)
    | none => none

def keepG (kp : Bool) (n : Nat) (m : Mini) (s : AState) (v : PV) (pd : Pend) : Pend := if kp then (n, m.k, m.xs.map (·.ev s.env), v) :: pd else pd

open Classical in
noncomputable def runG (Φ : Oracle) (k : Nat) : Nat → Nat → Pend → List GI → AState → Option AState
  | _, _, _, [], s => some s
  | n, b, pd, .o m kp ag :: r, s => match valD Φ s m with
    | some (v, H', nx') => if agnP Φ pd H' nx' ag then runG Φ k (n + 1) b (keepG kp n m s v pd) r (({ s with H := H', nx := nx' } : AState).put m.dst v) else none
    | none => none
  | n, b, pd, .g j m :: r, s => match evalK Φ s.H ((if j = 0 then s.nx else b) + k + j) m.k (m.xs.map (·.ev s.env)) with
    | some (v, H', _) => runG Φ k (n + 1) (if j = 0 then s.nx else b) pd r (({ s with H := H', nx := (if j = 0 then s.nx else b) + 2 * k } : AState).put m.dst v)
    | none => none

/-- The shape of such a run: the group stands at [pa, pa + k), and the looks are those of R. -/
def shapeG (pa k : Nat) (R : List (Nat × Nat)) (l : List GI) : Bool :=
  (l.zipIdx.all fun x => match x.1 with
    | .o _ _ _ => decide (x.2 < pa) || decide (pa + k ≤ x.2)
    | .g j _ => decide (pa ≤ x.2) && decide (x.2 < pa + k) && (x.2 == pa + j)) &&
  R.all fun r => match l[r.2]? with
    | some (.o _ _ ag) => ag.contains r.1
    | _ => false

/-- Where the group stands, which pairs are looked at again, and the run. -/
def groupOf (q : List (Nat × Mini)) : Nat × Nat :=
  let free := fun x : Nat × Mini => groupK x.2.k && x.2.g.isNone
  let pa := q.findIdx free
  (if pa < q.length then pa else 0, ((q.drop pa).takeWhile free).length)

def againOf (A : List Nat) (q : List (Nat × Mini)) : List (Nat × Nat) :=
  q.zipIdx.flatMap fun y => if quietK y.1.2.k || allocK y.1.2.k then [] else
    (q.zipIdx.filter fun x => decide (x.2 < y.2) && quietK x.1.2.k && !indepK x.1.2.k && !(A.getD y.1.1 0).testBit x.1.1).map fun x => (x.2, y.2)

def itemsOf (pa k : Nat) (R : List (Nat × Nat)) (q : List (Nat × Mini)) : List GI :=
  q.zipIdx.map fun x => if pa ≤ x.2 ∧ x.2 < pa + k then .g (x.2 - pa) x.1.2 else .o x.1.2 (R.any fun r => r.1 == x.2) ((R.filter fun r => r.2 == x.2).map Prod.fst)

end
end Go.Abs
