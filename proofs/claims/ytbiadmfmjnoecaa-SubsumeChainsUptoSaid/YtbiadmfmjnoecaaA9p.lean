/-
  Contracts of functions that are handed rows ('CallP'): what comes back, and the rows behind the call. How they are used at a call. No statement of the program stands here.
-/
import Derived.Test.YtbiadmfmjnoecaaA9
namespace Go.Abs
set_option linter.unusedSimpArgs false
set_option linter.unusedVariables false
open Go

/-- Called with ps over the rows H, the function returns r, and the rows are H'. -/
def CallP (P : Program) (G : Globs) (f : FuncId) (ps : List PV) (H : Heap) (nx : Nat) (r : PV) (H' : Heap) (nx' : Nat) : Prop :=
  IsFn P f ∧ ∀ (L : Loc) (w : World) (us : Array Value), HeapOK P G L H w → L.nx = nx → RepVL P L w ps us.toList →
    Calls P f us w fun e w' => ∃ v L', e = .returned v ∧ RepV P L' w' r v ∧ HeapOK P G L' H' w' ∧ L'.nx = nx' ∧ Mono L w L' w' ∧ Ext L H w L' H' w'

theorem RepVL.append {P : Program} {L : Loc} {w : World} : ∀ {ps qs : List PV} {us vs : List Value}, RepVL P L w ps us → RepVL P L w qs vs → RepVL P L w (ps ++ qs) (us ++ vs)
  | [], qs, us, vs, h, h' => by simp only [RepVL] at h; subst h; simpa using h'
  | p :: ps, qs, us, vs, h, h' => by
    simp only [RepVL] at h
    obtain ⟨x, xs, rfl, hx, hxs⟩ := h
    simp only [List.cons_append, RepVL]
    exact ⟨x, xs ++ vs, rfl, hx, RepVL.append hxs h'⟩

section
variable {P : Program} {G : Globs} {B : Nat} {s : AState} {o : Oper} {f : FuncId} {r : PV} {H' : Heap} {nx' : Nat}

theorem rep_args {L : Loc} {a : Act} {w : World} (hi : Interp P G B L s a w) (args : Array Operand) : RepVL P L w (args.toList.map (s.ev G)) (args.map a.eval).toList := by
  refine RepVL.mk (by simp) fun k c x hk hx => ?_
  simp only [List.getElem?_map, Array.toList_map] at hk hx
  cases ha : args.toList[k]? with
  | none => rw [ha] at hk; cases hk
  | some q =>
    rw [ha] at hk hx
    injection hk with hk; injection hx with hx; subst hk; subst hx
    exact hi.ev q

theorem aop_enter {ps : List PV} (hc : CallP P G f ps s.H s.nx r H' nx')
    (hrun : ∀ L a w, Interp P G B L s a w → ∃ us : Array Value, (execOp a.eval o).run P w = .ok (.enter f us) w ∧ RepVL P L w ps us.toList) : AOp P G B o s r H' nx' := fun L a w hi => by
  obtain ⟨us, hr, hrep⟩ := hrun L a w hi
  unfold Oper.wp
  rw [hr, Oper.upon_enter]
  refine (hc.2 L w us hi.heap hi.nx hrep).mono ?_
  rintro e w' ⟨v, L', rfl, hv, hok, hnx, hm, hx⟩
  exact ⟨v, L', rfl, hv, hok, hnx, hm, hx⟩

/-- A call of a function by its name. -/
theorem aop_callP {args : Array Operand} {ts : Array TypeId} (ho : o.op = .call ⟨.value (.func f), args, ts⟩) (hc : CallP P G f (args.toList.map (s.ev G)) s.H s.nx r H' nx') : AOp P G B o s r H' nx' :=
  aop_enter hc fun L a w hi => ⟨args.map a.eval, by simp [execOp, ho, resolve, Act.eval, Deferred.ofValue, invoke, hc.1.run], rep_args hi args⟩

/-- A call of a function value that bears nothing. -/
theorem aop_callV {x : Operand} {args : Array Operand} {ts : Array TypeId} (ho : o.op = .call ⟨.value x, args, ts⟩) (hx : s.ev G x = .t (.v (.func (.func f) #[] #[]))) (hc : CallP P G f (args.toList.map (s.ev G)) s.H s.nx r H' nx') : AOp P G B o s r H' nx' :=
  aop_enter hc fun L a w hi => by
    have := hi.ev x
    rw [hx] at this
    simp only [RepV, RepT] at this
    exact ⟨args.map a.eval, by simp [execOp, ho, resolve, this, Deferred.ofValue, invoke, hc.1.run], rep_args hi args⟩

/-- A call of a function value that bears values. -/
theorem aop_callF {x : Operand} {args : Array Operand} {ts : Array TypeId} {first cap : List PV} (ho : o.op = .call ⟨.value x, args, ts⟩) (hx : s.ev G x = .fn (.func f) first cap)
    (hc : CallP P G f (first ++ args.toList.map (s.ev G) ++ cap) s.H s.nx r H' nx') : AOp P G B o s r H' nx' :=
  aop_enter hc fun L a w hi => by
    have := hi.ev x
    rw [hx] at this
    simp only [RepV] at this
    obtain ⟨us, vs, e, h1, h2⟩ := this
    refine ⟨us ++ args.map a.eval ++ vs, by simp [execOp, ho, resolve, e, Deferred.ofValue, invoke, hc.1.run], ?_⟩
    have := (h1.append (rep_args hi args)).append h2
    simpa using this
end

/-- A contract over trees is one over rows. -/
theorem CallT.callP {P : Program} {G : Globs} {f : FuncId} {H : Heap} {nx : Nat} {ps : List PV} {targs : List T} {F : List Nat} {r : T} (hT : toTs H ps = some (targs, F)) (hc : CallT P G f targs (· = r)) :
    CallP P G f ps H nx (.t r) (if plainT r then H else remAll H F) nx := by
  refine ⟨hc.1, fun L w us hheap hnx hargs => ?_⟩
  have hrep := toTs_rep hheap _ hT hargs F (fun b hb => hb)
  have hlt : ∀ b, (L.I b ∨ Lent L H F b) → b < w.heap.size := by
    rintro b (h | ⟨k, _, ⟨r, hr⟩, rfl⟩)
    · exact hheap.lt b h
    · exact (hheap.rep k r hr).lt
  refine (hc.2 _ w us hlt (fun g cs hg => ⟨.inl (hheap.glob g cs hg).1, RepC.keep (keeps_more fun g hg => .inl hg) cs (hheap.glob g cs hg).1 (hheap.glob g cs hg).2⟩) hrep).mono ?_
  rintro e w' ⟨v, r', I', rfl, rfl, hv, hout, hsz, hsame, hmore, hnew, hltI⟩
  have hshape : Shapes w w' := fun g hg arr ty fz he => ⟨arr, fz, by rw [← hsame g hg]; exact he, rfl⟩
  by_cases hp : plainT r' = true
  · rw [if_pos hp]
    have hm : Mono L w L w' := ⟨fun b hb => ⟨hb, hsame b (hheap.lt b hb)⟩, Nat.le_refl _, fun _ _ => rfl, hsz, hshape⟩
    refine ⟨v, L, rfl, by simp only [RepV]; exact plainT_rep hp hv, ?_, hnx, hm, ?_⟩
    · exact ⟨fun b hb => Nat.lt_of_lt_of_le (hheap.lt b hb) hsz, fun b r hb => (hheap.rep b r hb).keep hm (hsame _ (hheap.rep b r hb).lt), hheap.apart, hheap.inj, hheap.nx, glob_keep hheap hm.keeps⟩
    · exact ⟨hsz, fun g hg _ => hsame g hg, fun _ h => h, fun _ h => .inl h, fun _ h => .inr h, hshape, hout⟩
  · rw [if_neg hp]
    have hm : Mono L w { L with I := I' } w' := ⟨fun b hb => ⟨hmore b (.inl hb), hsame b (hheap.lt b hb)⟩, Nat.le_refl _, fun _ _ => rfl, hsz, hshape⟩
    refine ⟨v, { L with I := I' }, rfl, by simp only [RepV]; exact hv, ?_, hnx, hm, ?_⟩
    · refine ⟨hltI, fun b r hb => ?_, fun b r hb hI => ?_, fun b b' r r' hb hb' => ?_, fun b r hb => ?_, glob_keep hheap hm.keeps⟩
      · have hb' := (look_remAll F H b r hb).1
        exact (hheap.rep b r hb').keep hm (hsame _ (hheap.rep b r hb').lt)
      · obtain ⟨hb', hnF⟩ := look_remAll F H b r hb
        rcases hnew _ hI with (h | ⟨k, hk, ⟨r2, hr2⟩, e⟩) | h
        · exact hheap.apart b r hb' h
        · exact hnF ((hheap.inj k b r2 r hr2 hb' e) ▸ hk)
        · have := (hheap.rep b r hb').lt
          exact absurd this (by have h' : w.heap.size ≤ L.μ b := h; omega)
      · exact hheap.inj b b' r r' (look_remAll F H b r hb).1 (look_remAll F H b' r' hb').1
      · exact hheap.nx b r (look_remAll F H b r hb).1
    · refine ⟨hsz, fun g hg _ => hsame g hg, fun g h => hmore g (.inl h), fun g h => ?_, fun g ⟨k, r, hk, e⟩ => .inr ⟨k, r, (look_remAll F H k r hk).1, e⟩, hshape, hout⟩
      rcases hnew g h with (h | ⟨k, _, ⟨r2, hr2⟩, e⟩) | h
      · exact .inl h
      · exact .inr (.inr ⟨k, r2, hr2, e⟩)
      · exact .inr (.inl h)

end Go.Abs
