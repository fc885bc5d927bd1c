/-
  append on rows of the call's own; struct literals; one function for all operations that change rows ('heavyV') and its law. No statement of the program stands here.
-/
import Derived.Test.YtbiadmfmjnoecaaA7
namespace Go.Abs
set_option linter.unusedSimpArgs false
set_option linter.unusedVariables false
open Go

/-- What an append's source holds: how many elements, their cells. -/
def srcP (H : Heap) (z : Nat) : PV → Option (Nat × List PV)
  | .t (.v (.slice none n _)) => if n = 0 then some (0, []) else none
  | .t (.sl m cs) => if cs.length = m * z then some (m, cs.map .t) else none
  | .row b o m z' => match look H b with
    | some (.cells _ cs) => if z' = z ∧ o + m * z ≤ cs.length then some (m, (cs.drop o).take (m * z)) else none
    | _ => none
  | _ => none

section
variable {P : Program} {G : Globs} {B : Nat} {s : AState} {o : Oper}

theorem srcP_run {L : Loc} {H : Heap} {w : World} {z m : Nat} {p : PV} {ps : List PV} {u : Value} (hok : HeapOK P G L H w) (h : srcP H z p = some (m, ps)) (hp : RepV P L w p u) :
    ∃ A c xs, u = .slice A m c ∧ xs.length = m * z ∧ RepVL P L w ps xs ∧ (∀ x ∈ xs, x.oneCell' = true) ∧ (A = none → m = 0) ∧ ∀ ad, A = some ad → ∀ (j : Nat) x, xs[j]? = some x → w.cell? (ad.add j) = some x := by
  unfold srcP at h
  split at h
  · rename_i n c
    split at h
    · rename_i hn
      subst hn
      injection h with h; injection h with h1 h2; subst h1; subst h2
      simp only [RepV, RepT] at hp
      subst hp
      exact ⟨none, c, [], rfl, by simp, by simp only [RepVL], by simp, fun _ => rfl, fun _ h => by cases h⟩
    · cases h
  · rename_i m' cs
    split at h
    · rename_i hl
      injection h with h; injection h with h1 h2; subst h1; subst h2
      simp only [RepV, RepT] at hp
      obtain ⟨a, c, rfl, hc, hI⟩ := hp
      rcases hI with ⟨rfl, rfl⟩ | ⟨hsp, hb, hr⟩
      · exact ⟨some a, c, [], rfl, by simp, by simp only [List.map_nil, RepVL], by simp, (fun h => by cases h), fun ad e j x hx => by simp at hx⟩
      obtain ⟨b, o, sp⟩ := a
      simp only at hsp hb hr
      subst hsp
      obtain ⟨xs, hxl, hcell, h1, hrep⟩ := RepC.values hr
      refine ⟨some ⟨b, o, none⟩, c, xs, rfl, by omega, RepVL.ofT hrep, h1, (fun h => by cases h), fun ad e j x hx => ?_⟩
      injection e with e; subst e; rw [Addr.add_lit]; exact hcell j x hx
    · cases h
  · rename_i b o m' z'
    split at h
    · rename_i ty cs hl
      split at h
      · rename_i hc
        obtain ⟨rfl, hc⟩ := hc
        injection h with h; injection h with h1 h2; subst h1; subst h2
        simp only [RepV] at hp
        obtain ⟨hb, hm, c, rfl, hcap, _⟩ := hp
        obtain ⟨xs, hxl, hcell, h1, hrep⟩ := row_values (hok.rep b _ hl)
        refine ⟨some ⟨L.μ b, o, none⟩, c, (xs.drop o).take (m' * z'), rfl, by simp; omega, hrep.drop_take o (m' * z'), fun x hx => h1 x (List.mem_of_mem_drop (List.mem_of_mem_take hx)), (fun h => by cases h), fun ad e j x hx => ?_⟩
        injection e with e; subst e
        rw [Addr.add_lit]
        rw [List.getElem?_take] at hx
        split at hx
        · rw [List.getElem?_drop] at hx
          exact hcell _ x hx
        · cases hx
      · cases h
    · cases h
  · cases h

theorem rem_upd {α : Type} (b : Nat) (y : α) : ∀ (H : List (Nat × α)), rem (upd H b y) b = rem H b
  | [] => rfl
  | (k, x) :: r => by
    by_cases hk : k = b
    · simp [upd, rem, hk]
    · simp [upd, rem, hk, rem_upd b y r]

/-- append(d, x...). -/
def appendV (P : Program) (H : Heap) (nx : Nat) (t : TypeId) (d x : PV) : Option (PV × Heap × Nat) :=
  match elemInfo P t with
  | some (e, z, by', _) => match srcP H z x with
    | some (m, ps) => match d with
      | .t (.v (.slice none n c)) => if n = 0 ∧ c = 0 then
          (if m = 0 then some (d, H, nx) else if m * by' ≤ 140737488355328 ∧ m ≤ 9223372036854775807 then some (.row nx 0 m z, (nx, .cells e ps) :: H, nx + 1) else none) else none
      | .row b o n z' => match look H b with
        | some (.cells ty cs) =>
          if z' = z ∧ o = 0 ∧ ty = e ∧ cs.length = n * z ∧ (n + m) * by' ≤ 140737488355328 ∧ n + m ≤ 9223372036854775807 then some (.row nx 0 (n + m) z, (nx, .cells e (cs ++ ps)) :: rem H b, nx + 1) else none
        | _ => none
      | _ => none
    | none => none
  | none => none

theorem run_append_room_none {w : World} (t ty e : TypeId) (i : TypeInfo) (ht : P.underlying t = some (.slice e)) (hi : P.info? e = some i) (b : Option Addr) (sLen sCap c : Nat) (hroom : sLen ≤ sCap) :
    (Builtin.append_ #[t, t] ty #[.slice b sLen sCap, .slice none 0 c]).run P w = .ok (.slice b sLen sCap) w := by
  cases b <;> simp [Builtin.append_, run_underlying ht, sizeOf, typeInfo, hi, Builtin.lenOf, hroom, Builtin.firstCells, storeCells]

theorem rep_append {L : Loc} {w : World} {cs ps : List PV} {xs ys : List Value} (h : RepVL P L w cs xs) (h' : RepVL P L w ps ys) : RepVL P L w (cs ++ ps) (xs ++ ys) := by
  have hl := h.length
  refine RepVL.mk (by simp [h.length, h'.length]) fun k c x hk hx => ?_
  by_cases hlt : k < cs.length
  · rw [List.getElem?_append_left hlt] at hk
    rw [List.getElem?_append_left (by omega)] at hx
    obtain ⟨y, hy, hr⟩ := h.at_ k hk
    rw [hy] at hx; injection hx with hx; subst hx; exact hr
  · rw [List.getElem?_append_right (by omega)] at hk hx
    rw [hl] at hx
    obtain ⟨y, hy, hr⟩ := h'.at_ _ hk
    rw [hy] at hx; injection hx with hx; subst hx; exact hr

/-- A row out of values and what follows. -/
theorem row_of_values {L L' : Loc} {w w' : World} {ty : TypeId} {g : Nat} {cs : List PV} {xs : List Value} {arr : Array Value} (hm : Mono L w L' w') (hg : w'.heap[g]? = some (.cells arr ty (0, 0))) (hr : RepVL P L w cs xs)
    (h1 : ∀ x ∈ xs, x.oneCell' = true) (hpre : ∀ (j : Nat) x, xs[j]? = some x → arr[j]? = some x) : RowRep P L' w' g (.cells ty cs) := by
  refine ⟨arr, hg, ?_, fun j c hj => ?_⟩
  · rw [← hr.length]
    rcases Nat.lt_or_ge arr.size xs.length with hlt | hge
    · have h2 : xs[arr.size]? = some xs[arr.size] := List.getElem?_eq_getElem hlt
      have := hpre _ _ h2
      simp at this
    · exact hge
  · obtain ⟨x, hx, hrr⟩ := hr.at_ j hj
    exact ⟨x, hpre j x hx, h1 x (List.mem_of_getElem? hx), RepV.keep hm c hrr⟩

theorem aop_append {t : TypeId} {x y : Operand} {r : PV} {H' : Heap} {nx' : Nat} (ho : o.op = .call ⟨.builtin .append, #[x, y], #[t, t]⟩)
    (h : appendV P s.H s.nx t (s.ev G x) (s.ev G y) = some (r, H', nx')) : AOp P G B o s r H' nx' := fun L a w hi => by
  unfold appendV at h
  split at h
  · rename_i e z by' zc he
    obtain ⟨i, zv, hu, hinf, hz, rfl, rfl, rfl, hzl, hpos, hone⟩ := elemInfo_spec he
    have hzs : zv.cells.size = i.size := by simpa using hzl
    split at h
    · rename_i m ps hsrc
      obtain ⟨A, c, xs, hyv, hxl, hxr, hx1, hnone, hcell⟩ := srcP_run hi.heap hsrc (hi.ev y)
      have hxe := hi.ev x
      have run_of : ∀ {v w'}, (Builtin.append_ #[t, t] o.type #[a.eval x, a.eval y]).run P w = .ok v w' → (execOp a.eval o).run P w = .ok (.value v) w' := by
        intro v w' hh
        simp [execOp, ho, resolve, invoke, builtin, hh]
      split at h
      · rename_i n cap hd
        split at h
        · rename_i hnc
          obtain ⟨rfl, rfl⟩ := hnc
          rw [hd] at hxe
          have hxe' := hxe
          simp only [RepV, RepT] at hxe'
          split at h
          · rename_i hm0
            subst hm0
            injection h with h; injection h with h1 h2; injection h2 with h2 h3; subst h1; subst h2; subst h3
            unfold Oper.wp
            have : (Builtin.append_ #[t, t] o.type #[a.eval x, a.eval y]).run P w = .ok (.slice none 0 0) w := by
              rw [hxe', hyv]
              cases A with
              | none => exact run_append_room_none t o.type e i hu hinf none 0 0 c (Nat.le_refl _)
              | some ad =>
                have hf := run_firstCells_some (P := P) w i.size 0 ad 0 c [] (by simp) (by simp)
                simp [Builtin.append_, run_underlying hu, sizeOf, typeInfo, hinf, Builtin.lenOf, hf]
            rw [run_of this, Oper.upon_value]
            refine ⟨.slice none 0 0, L, rfl, by rw [hd]; simp only [RepV, RepT], hi.heap, hi.nx, Mono.refl _ _, Ext.refl _ _ _⟩
          · rename_i hm0
            split at h
            · rename_i hb
              injection h with h; injection h with h1 h2; injection h2 with h2 h3; subst h1; subst h2; subst h3
              cases A with
              | none => exact absurd (hnone rfl) hm0
              | some ad =>
                have hrun := run_append_nil (P := P) w t o.type e i zv hu hinf hz ad m c xs hxl (hcell ad rfl) (by omega) (by omega) (by omega)
                rw [← hxe', ← hyv] at hrun
                unfold Oper.wp
                rw [run_of hrun, Oper.upon_value]
                have hge := grownCap_ge w m 0 e
                have hn := heap_new (r := .cells e ps) (w' := w.drew.alloc (.cells (xs.toArray ++ Builtin.zeroCells zv.cells (grownCap w m 0 e - m)) e)) (o := .cells (xs.toArray ++ Builtin.zeroCells zv.cells (grownCap w m 0 e - m)) e) hi.heap ⟨rfl, rfl, rfl⟩ rfl
                  (row_of_values (mono_push hi.heap rfl) (heap_alloc_new w.drew _) hxr hx1 (fun j q hq => by
                    have hj : j < xs.length := (List.getElem?_eq_some_iff.1 hq).1
                    rw [Array.getElem?_append_left (by simpa using hj)]
                    simpa using hq))
                rw [← hi.nx]
                refine ⟨_, _, rfl, ?_, hn.1, rfl, hn.2.1, hn.2.2⟩
                simp only [RepV]
                have e1 : (L.grow w.heap.size).μ L.nx = w.heap.size := by simp [Loc.grow]
                refine ⟨by simp [Loc.grow], by rw [e1]; simp, grownCap w m 0 e, by rw [e1], hge, fun arr ty fz hh => ?_⟩
                rw [e1, show w.heap.size = w.drew.heap.size from rfl, heap_alloc_new] at hh
                injection hh with hh
                injection hh with hh1 hh2
                rw [← hh1]
                simp only [Array.size_append, List.size_toArray, size_zeroCells, hzs, hxl]
                rw [← Nat.add_mul]
                have : m + (grownCap w m 0 e - m) = grownCap w m 0 e := by omega
                rw [this]
                omega
            · cases h
        · cases h
      · rename_i b off n z' hd
        split at h
        · rename_i ty cs hl
          split at h
          · rename_i hc
            obtain ⟨rfl, rfl, rfl, hcl, hby, h63⟩ := hc
            injection h with h; injection h with h1 h2; injection h2 with h2 h3; subst h1; subst h2; subst h3
            rw [hd] at hxe
            simp only [RepV] at hxe
            obtain ⟨hb, hμ, c0, hxv, hnc, hcap⟩ := hxe
            obtain ⟨olds, hol, hocell, ho1, horep⟩ := row_values (hi.heap.rep b _ hl)
            obtain ⟨arr, harr, hle, hrow⟩ := hi.heap.rep b _ hl
            have hcapA := hcap arr _ _ harr
            simp only [Nat.zero_add] at hcapA
            have hnew := rep_append horep hxr
            have hnew1 : ∀ q ∈ olds ++ xs, q.oneCell' = true := by
              intro q hq
              rcases List.mem_append.1 hq with hq | hq
              · exact ho1 q hq
              · exact hx1 q hq
            have e1 : (L.grow (L.μ b)).μ L.nx = L.μ b := by simp [Loc.grow]
            have rowrep : ∀ (w' : World) (cap : Nat), w'.heap.size = w.heap.size → n + m ≤ cap → (∀ arr ty fz, w'.heap[L.μ b]? = some (.cells arr ty fz) → cap * i.size ≤ arr.size) →
                RepV P (L.grow (L.μ b)) w' (.row L.nx 0 (n + m) i.size) (.slice (some ⟨L.μ b, 0, none⟩) (n + m) cap) := by
              intro w' cap hs hcc hh
              simp only [RepV]
              refine ⟨by simp [Loc.grow], by rw [e1, hs]; exact hμ, cap, by rw [e1], hcc, fun arr ty fz he => ?_⟩
              rw [e1] at he
              have := hh arr ty fz he
              omega
            rw [← hi.nx]
            unfold Oper.wp
            cases A with
            | none =>
              have hm0 := hnone rfl
              subst hm0
              have hx0 : xs = [] := List.eq_nil_of_length_eq_zero (by simpa using hxl)
              subst hx0
              have hp0 : ps = [] := List.eq_nil_of_length_eq_zero (by simpa using hxr.length.symm)
              subst hp0
              have hrun := run_append_room_none (P := P) (w := w) t o.type _ i hu hinf (some ⟨L.μ b, 0, none⟩) n c0 c hnc
              rw [← hxv, ← hyv] at hrun
              rw [run_of hrun, Oper.upon_value, hxv]
              have hmv := heap_move hi.heap hl
              rw [List.append_nil]
              exact ⟨_, _, rfl, rowrep w c0 rfl hnc (fun arr ty fz he => by have := hcap arr ty fz he; omega), hmv.1, rfl, hmv.2.1, hmv.2.2⟩
            | some ad =>
              by_cases hroom : n + m ≤ c0
              · have hfit : n * i.size + xs.length ≤ arr.size := by
                  rw [hxl, ← Nat.add_mul]
                  exact Nat.le_trans (Nat.mul_le_mul_right _ hroom) hcapA
                have hrun := run_append_room (P := P) w t o.type _ i hu hinf (L.μ b) n c0 arr harr ad m c xs hxl (hcell ad rfl) hx1 hroom hfit
                rw [← hxv, ← hyv] at hrun
                rw [run_of hrun, Oper.upon_value]
                have hwr := heap_write (w' := w.setRow (L.μ b) (arr.toList.take (n * i.size) ++ xs ++ arr.toList.drop (n * i.size + xs.length)).toArray) (r := .cells ty (cs ++ ps)) hi.heap ⟨rfl, rfl, rfl⟩ hl (by simp)
                  (fun g hg => setRow_other w _ g _ hg) (shapes_setRow harr (by simp; omega))
                  (fun hm => row_of_values hm (setRow_heap w _ arr _ _ _ harr) hnew hnew1 (fun j q hq => by
                    simp only [List.getElem?_toArray]
                    have hjl : j < (olds ++ xs).length := (List.getElem?_eq_some_iff.1 hq).1
                    have holds : olds = arr.toList.take (n * i.size) := by
                      apply List.ext_getElem?
                      intro k
                      rw [List.getElem?_take]
                      by_cases hk : k < n * i.size
                      · rw [if_pos hk]
                        have hk' : k < olds.length := by omega
                        rw [List.getElem?_eq_getElem hk']
                        have := hocell k _ (List.getElem?_eq_getElem hk')
                        rw [cell_of_row w _ k arr _ _ harr] at this
                        simpa using this.symm
                      · rw [if_neg hk, List.getElem?_eq_none (by omega)]
                    rw [← holds, List.getElem?_append_left hjl]
                    exact hq))
                have hmv := heap_move hwr.1 (r := .cells ty (cs ++ ps)) (b := b) (by rw [look_upd, if_pos rfl, hl]; rfl)
                rw [rem_upd] at hmv
                refine ⟨_, _, rfl, rowrep _ c0 (by simp) hroom (fun arr' ty' fz he => ?_), hmv.1, rfl, hwr.2.1.trans hmv.2.1, hwr.2.2.trans hmv.2.2⟩
                rw [setRow_heap w _ arr _ _ _ harr] at he
                injection he with he
                injection he with he1 he2
                rw [← he1]
                simp
                omega
              · have hrun := run_append_grow (P := P) w t o.type _ i zv hu hinf hz ⟨L.μ b, 0, none⟩ n c0 olds (by omega) (fun j q hq => by rw [Addr.add_lit, Nat.zero_add]; exact hocell j q hq) ad m c xs hxl (hcell ad rfl) (by omega) (by omega) (growslice_fits (by omega) hby)
                rw [← hxv, ← hyv] at hrun
                rw [run_of hrun, Oper.upon_value]
                have hge := grownCap_ge w (n + m) c0 ty
                have hrm := heap_rem b hi.heap
                have hn := heap_new (r := .cells ty (cs ++ ps)) (w' := w.drew.alloc (.cells (olds.toArray ++ xs.toArray ++ Builtin.zeroCells zv.cells (grownCap w (n + m) c0 ty - (n + m))) ty)) (o := .cells (olds.toArray ++ xs.toArray ++ Builtin.zeroCells zv.cells (grownCap w (n + m) c0 ty - (n + m))) ty) hrm.1 ⟨rfl, rfl, rfl⟩ rfl
                  (row_of_values (mono_push hi.heap rfl) (heap_alloc_new w.drew _) hnew hnew1 (fun j q hq => by
                    have hj : j < (olds ++ xs).length := (List.getElem?_eq_some_iff.1 hq).1
                    rw [Array.getElem?_append_left (by simpa using hj)]
                    simpa using hq))
                refine ⟨_, _, rfl, ?_, hn.1, rfl, hn.2.1, hrm.2.trans hn.2.2⟩
                simp only [RepV]
                have e1 : (L.grow w.heap.size).μ L.nx = w.heap.size := by simp [Loc.grow]
                refine ⟨by simp [Loc.grow], by rw [e1]; simp, grownCap w (n + m) c0 ty, by rw [e1], hge, fun arr ty' fz hh => ?_⟩
                rw [e1, show w.heap.size = w.drew.heap.size from rfl, heap_alloc_new] at hh
                injection hh with hh
                injection hh with hh1 hh2
                rw [← hh1]
                simp only [Array.size_append, List.size_toArray, size_zeroCells, hzs, hxl, hol, hcl]
                rw [← Nat.add_mul, ← Nat.add_mul]
                have : n + m + (grownCap w (n + m) c0 ty - (n + m)) = grownCap w (n + m) c0 ty := by omega
                rw [this]
                omega
          · cases h
        · cases h
      · cases h
    · cases h
  · cases h
end
end Go.Abs
