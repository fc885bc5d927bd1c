/-
 Auxiliary facts. No statement of the program stands here.
-/
import Derived.Test.YtjkkgbdoeaihmaaGreatDoorUBQ06
import Derived.Laws.StructEq
import Derived.Laws.BytesString
import Derived.Laws.RangeString
namespace Go.Abs
set_option linter.unusedSimpArgs false
set_option linter.unusedVariables false
open Go
def eqCells : List CK → List T → List T → Option Bool
 | [], [], [] => some true
 | .i :: ks, .v (.int k a) :: xs, .v (.int k' b) :: ys => if k = k' then (eqCells ks xs ys).map fun r => (a == b) && r else none
 | .s :: ks, .v (.string a) :: xs, .v (.string b) :: ys => (eqCells ks xs ys).map fun r => (a.toList == b.toList) && r
 | .b :: ks, .v (.bool a) :: xs, .v (.bool b) :: ys => (eqCells ks xs ys).map fun r => (a == b) && r
 | _, _, _ => none
def mkFn (f : Fn) (first cap : List PV) : PV :=
 match first, cap with
 | [], [] => .t (.v (.func f #[] #[]))
 | first, cap => .fn f first cap
def exM : EK → List PV → Option PV
 | .eqs neg ks, [.t (.ag xs), .t (.ag ys)] => (eqCells ks xs ys).map fun r => .t (.v (.bool (if neg then !r else r)))
 | .mki t, [.t x] => some (.t (.ic t x))
 | .mki t, [x] => some (.ic t x)
 | .mkf f n, ps => some (mkFn f (ps.take n) (ps.drop n))
 | _, _ => none
def bytesOf : List T → Option (List UInt8)
 | [] => some []
 | .v (.int .u8 n) :: r => (bytesOf r).map fun l => UInt8.ofNat n.toNat :: l
 | _ => none
def hxM (k : HK) (H : Heap) (nx : Nat) (ps : List PV) : Option (PV × Heap × Nat) :=
 match k, ps with
 | .range, [.t (.v (.string s))] => some (.ptr nx 0, (nx, .iter s 0) :: H, nx + 1)
 | .next, [.ptr b 0] => match look H b with
  | some (.iter s pos) => if pos < s.size then
    some (.t (.tu [.v (.bool true), .v (.int .i64 pos), .v (.int .i32 (Utf8.decode s pos).1)]), upd H b (.iter s (pos + (Utf8.decode s pos).2)), nx)
   else some (.t (.tu [.v (.bool false)]), H, nx)
  | _ => none
 | .b2s, [p] => match toTS H p with
  | some cs => (bytesOf cs).map fun l => (.t (.v (.string ⟨l.toArray⟩)), H, nx)
  | none => none
 | _, _ => none
 where
 toTS (H : Heap) : PV → Option (List T)
  | .t (.v (.slice none _ _)) => some []
  | .t (.sl n cs) => if cs.length = n then some cs else none
  | .row b o n z => match look H b with
   | some (.cells _ cs) => if z = 1 ∧ o + n ≤ cs.length then allT ((cs.drop o).take n) else none
   | _ => none
  | _ => none
def kindsFrom (P : Program) : Nat → List Field → Option (List CK)
 | _, [] => some []
 | o, f :: fs => if f.name ≠ "_" ∧ f.offset = o ∧ (P.info? f.type).map (·.size) = some 1 then
   (match P.underlying f.type with
   | some (.int _) => (kindsFrom P (o + 1) fs).map (.i :: ·)
   | some .string => (kindsFrom P (o + 1) fs).map (.s :: ·)
   | some .bool => (kindsFrom P (o + 1) fs).map (.b :: ·)
   | _ => none)
  else none
def kindsOf (P : Program) (t : TypeId) : Option (List CK) :=
 match P.underlying t with
 | some (.struct fs) => if P.stoodInHeld t = false ∧ P.eqGuardType P.depth t = false then kindsFrom P 0 fs.toList else none
 | _ => none
def extK (P : Program) (G : Globs) (o : Op) : Option (MK × List Opd) :=
 match o with
 | .binOp .eql t x y _ => (kindsOf P t).map fun ks => (.ex (.eqs false ks), [compOpd G x, compOpd G y])
 | .binOp .neq t x y _ => (kindsOf P t).map fun ks => (.ex (.eqs true ks), [compOpd G x, compOpd G y])
 | .range t x => match P.underlying t with
  | some .string => some (.hx .range, [compOpd G x])
  | _ => none
 | .next x true => some (.hx .next, [compOpd G x])
 | .convert src dst x => match P.underlying src, P.underlying dst with
  | some (.slice e), some .string => match P.underlying e with
   | some (.int .u8) => some (.hx .b2s, [compOpd G x])
   | _ => none
  | _, _ => none
 | .makeInterface t x => match P.underlying t with
  | some (.interface _) => none
  | some _ => some (.ex (.mki t), [compOpd G x])
  | none => none
 | .makeFunc f first cap => some (.ex (.mkf f first.size), first.toList.map (compOpd G) ++ cap.toList.map (compOpd G))
 | .panic x => some (.hx .pan, [compOpd G x])
 | _ => none
theorem extK_kind {P : Program} {G : Globs} {o : Op} {k : MK} {xs : List Opd} (hk : match k with | .ex _ | .hx _ => False | _ => True) : ¬ extK P G o = some (k, xs) := by
 intro h
 unfold extK at h
 split at h
 ·obtain ⟨ks, _, e⟩ := Option.map_eq_some_iff.1 h
  injection e with e1 e2; subst e1; exact hk
 ·obtain ⟨ks, _, e⟩ := Option.map_eq_some_iff.1 h
  injection e with e1 e2; subst e1; exact hk
 ·split at h
  ·injection h with h; injection h with e1 e2; subst e1; exact hk
  ·cases h
 ·injection h with h; injection h with e1 e2; subst e1; exact hk
 ·split at h
  ·split at h
   ·injection h with h; injection h with e1 e2; subst e1; exact hk
   ·cases h
  ·cases h
 ·split at h
  ·cases h
  ·injection h with h; injection h with e1 e2; subst e1; exact hk
  ·cases h
 ·injection h with h; injection h with e1 e2; subst e1; exact hk
 ·injection h with h; injection h with e1 e2; subst e1; exact hk
 ·cases h
section
variable {P : Program} {G : Globs} {B : Nat} {s : AState} {o : Oper}
theorem part_one {w : World} {t : TypeId} {xs : Array Value} {off : Nat} {x : Value} (hu : P.underlying t = some .string ∨ P.underlying t = some .bool ∨ ∃ k, P.underlying t = some (.int k)) (hx : xs[off]? = some x) : (part t xs off).run P w = .ok x w := by
 have ha : (isAgg t).run P w = .ok false w := by
  rcases hu with h | h | ⟨k, h⟩ <;> simp [isAgg, run_underlying h]
 simp [part, ha, hx]
theorem eqCells_i {ks : List CK} {cx cy : List T} {r : Bool} (h : eqCells (.i :: ks) cx cy = some r) : ∃ k a xs b ys r1, cx = .v (.int k a) :: xs ∧ cy = .v (.int k b) :: ys ∧ eqCells ks xs ys = some r1 ∧ r = ((a == b) && r1) := by
 unfold eqCells at h
 split at h
 all_goals (first | (rename_i hh; cases hh; done) | (cases h; done) | skip)
 rename_i ks' k a xs k' b ys hk
 cases hk
 split at h
 ·rename_i e; subst e
  obtain ⟨r1, h1, h2⟩ := Option.map_eq_some_iff.1 h
  exact ⟨k, a, xs, b, ys, r1, rfl, rfl, h1, h2.symm⟩
 ·cases h
theorem eqCells_s {ks : List CK} {cx cy : List T} {r : Bool} (h : eqCells (.s :: ks) cx cy = some r) : ∃ a xs b ys r1, cx = .v (.string a) :: xs ∧ cy = .v (.string b) :: ys ∧ eqCells ks xs ys = some r1 ∧ r = ((a.toList == b.toList) && r1) := by
 unfold eqCells at h
 split at h
 all_goals (first | (rename_i hh; cases hh; done) | (cases h; done) | skip)
 rename_i ks' a xs b ys hk
 cases hk
 obtain ⟨r1, h1, h2⟩ := Option.map_eq_some_iff.1 h
 exact ⟨a, xs, b, ys, r1, rfl, rfl, h1, h2.symm⟩
theorem eqCells_b {ks : List CK} {cx cy : List T} {r : Bool} (h : eqCells (.b :: ks) cx cy = some r) : ∃ a xs b ys r1, cx = .v (.bool a) :: xs ∧ cy = .v (.bool b) :: ys ∧ eqCells ks xs ys = some r1 ∧ r = ((a == b) && r1) := by
 unfold eqCells at h
 split at h
 all_goals (first | (rename_i hh; cases hh; done) | (cases h; done) | skip)
 rename_i ks' a xs b ys hk
 cases hk
 obtain ⟨r1, h1, h2⟩ := Option.map_eq_some_iff.1 h
 exact ⟨a, xs, b, ys, r1, rfl, rfl, h1, h2.symm⟩
theorem eqFields_run {w : World} (I : Nat → Prop) (d : Nat) (xs ys : Array Value) : ∀ (fs : List Field) (off : Nat) (ks : List CK) (cx cy : List T) (r : Bool), kindsFrom P off fs = some ks → eqCells ks cx cy = some r →
  RepL I w cx (xs.toList.drop off) → RepL I w cy (ys.toList.drop off) → (Op.eqFields (d + 1) xs ys fs).run P w = .ok r w
 | [], off, ks, cx, cy, r, hk, he, _, _ => by
  simp only [kindsFrom, Option.some.injEq] at hk
  subst hk
  cases cx <;> cases cy <;> simp [eqCells] at he
  subst he
  simp [Op.eqFields]
 | f :: fs, off, ks, cx, cy, r, hk, he, hx, hy => by
  simp only [kindsFrom] at hk
  split at hk
  ·rename_i hf
   obtain ⟨hn, ho, h1⟩ := hf
   have key : ∀ (a b : T) (cx' cy' : List T) (r0 r1 : Bool) (ks' : List CK), cx = a :: cx' → cy = b :: cy' → kindsFrom P (off + 1) fs = some ks' → eqCells ks' cx' cy' = some r1 → r = (r0 && r1) →
     (P.underlying f.type = some .string ∨ P.underlying f.type = some .bool ∨ ∃ k, P.underlying f.type = some (.int k)) →
     (∀ u v, RepT I w a u → RepT I w b v → (Op.equalIn (d + 1) f.type u v).run P w = .ok r0 w) → (Op.eqFields (d + 1) xs ys (f :: fs)).run P w = .ok r w := by
    intro a b cx' cy' r0 r1 ks' ex ey hks hr1 hr hu heq
    subst ex; subst ey
    simp only [RepL] at hx hy
    obtain ⟨u, us, e1, hu1, hus⟩ := hx
    obtain ⟨v, vs, e2, hv1, hvs⟩ := hy
    have g1 : xs[off]? = some u := by
     have : (xs.toList.drop off)[0]? = some u := by rw [e1]; rfl
     simpa using this
    have g2 : ys[off]? = some v := by
     have : (ys.toList.drop off)[0]? = some v := by rw [e2]; rfl
     simpa using this
    have d1 : xs.toList.drop (off + 1) = us := by
     have := congrArg (List.drop 1) e1
     simpa using this
    have d2 : ys.toList.drop (off + 1) = vs := by
     have := congrArg (List.drop 1) e2
     simpa using this
    have ih := eqFields_run I d xs ys fs (off + 1) ks' cx' cy' r1 hks hr1 (by rw [d1]; exact hus) (by rw [d2]; exact hvs)
    simp only [Op.eqFields, hn, ne_eq, not_false_eq_true, if_true, ho, Sem.run_bind, part_one hu g1, part_one hu g2, Result.andThen_ok, heq u v hu1 hv1]
    cases r0 with
    | true => simp [hr, ih]
    | false => simp [hr]
   split at hk
   ·rename_i k hu
    obtain ⟨ks', hks, rfl⟩ := Option.map_eq_some_iff.1 hk
    obtain ⟨k1, a, xs', b, ys', r1, e1, e2, h1, h2⟩ := eqCells_i he
    refine key _ _ _ _ (a == b) r1 ks' e1 e2 hks h1 h2 (.inr (.inr ⟨k, hu⟩)) fun u v hu' hv' => ?_
    simp only [RepT] at hu' hv'
    subst hu'; subst hv'
    exact run_equalIn_int w d f.type k1 k a b hu
   ·rename_i hu
    obtain ⟨ks', hks, rfl⟩ := Option.map_eq_some_iff.1 hk
    obtain ⟨a, xs', b, ys', r1, e1, e2, h1, h2⟩ := eqCells_s he
    refine key _ _ _ _ (a.toList == b.toList) r1 ks' e1 e2 hks h1 h2 (.inl hu) fun u v hu' hv' => ?_
    simp only [RepT] at hu' hv'
    subst hu'; subst hv'
    exact run_equalIn_string w d f.type a b hu
   ·rename_i hu
    obtain ⟨ks', hks, rfl⟩ := Option.map_eq_some_iff.1 hk
    obtain ⟨a, xs', b, ys', r1, e1, e2, h1, h2⟩ := eqCells_b he
    refine key _ _ _ _ (a == b) r1 ks' e1 e2 hks h1 h2 (.inr (.inl hu)) fun u v hu' hv' => ?_
    simp only [RepT] at hu' hv'
    subst hu'; subst hv'
    exact run_equalIn_bool' w d f.type a b hu
   ·cases hk
  ·cases hk
theorem aop_eqs {neg : Bool} {t : TypeId} {x y : Operand} {yt : TypeId} {ks : List CK} {r : PV} (ho : o.op = .binOp (if neg then .neq else .eql) t x y yt) (hk : kindsOf P t = some ks)
  (h : exM (.eqs neg ks) [s.ev G x, s.ev G y] = some r) : AOp P G B o s r s.H s.nx := by
 refine aop_light fun L a w hi => ?_
 have hx := hi.ev x
 have hy := hi.ev y
 unfold exM at h
 split at h
 ·rename_i n' ks' xs ys e1 e2
  injection e1 with e1 e1'
  subst e1; subst e1'
  injection e2 with e2 e3
  injection e3 with e3 e4
  rw [e2] at hx
  rw [e3] at hy
  simp only [RepV, RepT] at hx hy
  obtain ⟨us, ex, _, hxs⟩ := hx
  obtain ⟨vs, ey, _, hys⟩ := hy
  obtain ⟨b, hb, rfl⟩ := Option.map_eq_some_iff.1 h
  unfold kindsOf at hk
  split at hk
  ·rename_i fs hu
   split at hk
   ·rename_i hc
    have hf : P.fieldsOf t = fs := by simp [Program.fieldsOf, hu]
    have hrun : (Op.equalIn 10000 t (.agg us) (.agg vs)).run P w = .ok b w := by
     rw [show (10000 : Nat) = 9998 + 1 + 1 from rfl, run_equalIn_struct w (9998 + 1) t us vs (by rw [hf]; exact hu) hc.1, hf]
     exact eqFields_run L.I 9998 us vs fs.toList 0 ks xs ys b hk hb (by simpa using hxs) (by simpa using hys)
    refine ⟨.bool (if neg then !b else b), ?_, by simp only [RepV, RepT]⟩
    cases neg with
    | true =>
     simp only [if_true] at ho
     simp only [execOp, ho, ex, ey, Sem.run_bind, run_eqGuard_agg w .neq t x y us vs hc.2, run_neq_struct w t us vs, hrun, Result.andThen_ok, if_true]
     rfl
    | false =>
     simp only [Bool.false_eq_true, if_false] at ho
     simp only [execOp, ho, ex, ey, Sem.run_bind, run_eqGuard_agg w .eql t x y us vs hc.2, run_eql_struct w t us vs, hrun, Result.andThen_ok, Bool.false_eq_true, if_false]
     rfl
   ·cases hk
  ·cases hk
 all_goals (first | (rename_i e _; cases e; done) | (rename_i e; cases e; done) | (cases h; done))
theorem aop_range {t : TypeId} {x : Operand} {st : ByteArray} (ho : o.op = .range t x) (hu : P.underlying t = some .string) (hx : s.ev G x = .t (.v (.string st))) : AOp P G B o s (.ptr s.nx 0) ((s.nx, .iter st 0) :: s.H) (s.nx + 1) := by
 refine aop_new fun L a w hi => ?_
 have h := hi.ev x
 rw [hx] at h
 simp only [RepV, RepT] at h
 refine ⟨.pointer (some ⟨w.heap.size, 0, none⟩), w.iter st 0, .stringIter st 0, by simp [execOp, ho, h, run_range_string w t st hu], ⟨rfl, rfl, rfl⟩, rfl, fun hm => ⟨World.iter_heap w st 0, ?_⟩⟩
 simp only [RepV]
 exact ⟨by simp [Loc.grow, hi.nx], by simp [Loc.grow, hi.nx]⟩
theorem aop_next {x : Operand} {b : Nat} {st : ByteArray} {pos : Nat} (ho : o.op = .next x true) (hx : s.ev G x = .ptr b 0) (hl : look s.H b = some (.iter st pos)) (hp : pos < st.size) :
  AOp P G B o s (.t (.tu [.v (.bool true), .v (.int .i64 pos), .v (.int .i32 (Utf8.decode st pos).1)])) (upd s.H b (.iter st (pos + (Utf8.decode st pos).2))) s.nx := fun L a w hi => by
 have h := hi.ev x
 rw [hx] at h
 simp only [RepV] at h
 obtain ⟨hb, h⟩ := h
 have hr := hi.heap.rep b _ hl
 have hr' : w.heap[L.μ b]? = some (.stringIter st pos) := hr
 have hlt := (Array.getElem?_eq_some_iff.1 hr').1
 unfold Oper.wp
 have hrun : (execOp a.eval o).run P w = .ok (.value (.tuple #[.bool true, .int .i64 pos, .int .i32 (Utf8.decode st pos).1])) { w with heap := w.heap.setIfInBounds (L.μ b) (.stringIter st (pos + (Utf8.decode st pos).2)) } := by
  simp [execOp, ho, h, Instr.next, getObj, setObj, Sem.run, hr', hp, goInt]
 rw [hrun, Oper.upon_value]
 have hw := heap_write (w' := { w with heap := w.heap.setIfInBounds (L.μ b) (.stringIter st (pos + (Utf8.decode st pos).2)) }) (r := .iter st (pos + (Utf8.decode st pos).2)) hi.heap ⟨rfl, rfl, rfl⟩ hl (by simp)
  (fun g hg => by simp [Array.getElem?_setIfInBounds_ne (Ne.symm hg)]) (fun g hg arr ty fz he => by
   by_cases e : g = L.μ b
   ·subst e; simp [hlt] at he
   ·simp [Array.getElem?_setIfInBounds_ne (Ne.symm e)] at he; exact ⟨arr, fz, he, rfl⟩)
  (fun _ => by simp [RowRep, hlt])
 exact ⟨_, L, rfl, by simp [RepV, RepT, RepL], hw.1, hi.nx, hw.2.1, hw.2.2⟩
theorem aop_over {x : Operand} {b : Nat} {st : ByteArray} {pos : Nat} (ho : o.op = .next x true) (hx : s.ev G x = .ptr b 0) (hl : look s.H b = some (.iter st pos)) (hp : ¬ pos < st.size) :
  AOp P G B o s (.t (.tu [.v (.bool false)])) s.H s.nx := by
 refine aop_light fun L a w hi => ?_
 have h := hi.ev x
 rw [hx] at h
 simp only [RepV] at h
 obtain ⟨hb, h⟩ := h
 have hr : w.heap[L.μ b]? = some (.stringIter st pos) := hi.heap.rep b _ hl
 exact ⟨.tuple #[.bool false], by simp [execOp, ho, h, Instr.next, getObj, Sem.run, hr, hp], by simp [RepV, RepT, RepL]⟩
theorem bytesOf_rep {I : Nat → Prop} {w : World} : ∀ {cs : List T} {l : List UInt8} {us : List Value}, bytesOf cs = some l → RepL I w cs us → ∃ ns : List Int, us = ns.map (Value.int .u8) ∧ l = ns.map fun n => UInt8.ofNat n.toNat
 | [], l, us, h, hr => by
  simp only [bytesOf, Option.some.injEq] at h
  simp only [RepL] at hr
  exact ⟨[], by simp [hr], by simp [← h]⟩
 | c :: cs, l, us, h, hr => by
  simp only [RepL] at hr
  obtain ⟨x, xs, rfl, hx, hxs⟩ := hr
  unfold bytesOf at h
  split at h
  ·rename_i e; cases e
  ·rename_i n r e
   injection e with e1 e2
   subst e1; subst e2
   obtain ⟨l', hl', rfl⟩ := Option.map_eq_some_iff.1 h
   obtain ⟨ns, h1, h2⟩ := bytesOf_rep hl' hxs
   simp only [RepT] at hx
   exact ⟨n :: ns, by simp [hx, h1], by simp [h2]⟩
  ·cases h
theorem push_all : ∀ (ns : List Int) (b : ByteArray), ns.foldl (fun r n => r.push (UInt8.ofNat n.toNat)) b = ⟨b.data ++ (ns.map fun n => UInt8.ofNat n.toNat).toArray⟩
 | [], b => by simp
 | n :: ns, b => by
  rw [List.foldl_cons, push_all ns]
  simp [ByteArray.push]
theorem add_none (b o j : Nat) : (⟨b, o, none⟩ : Addr).add j = ⟨b, o + j, none⟩ := by
 unfold Addr.add
 split
 ·rename_i h; subst h; rfl
 ·rfl
theorem aop_b2s {src dst e : TypeId} {x : Operand} {cs : List T} {l : List UInt8} (ho : o.op = .convert src dst x) (hs : P.underlying src = some (.slice e)) (hd : P.underlying dst = some .string) (he : P.underlying e = some (.int .u8))
  (hx : hxM.toTS s.H (s.ev G x) = some cs) (hl : bytesOf cs = some l) : AOp P G B o s (.t (.v (.string ⟨l.toArray⟩))) s.H s.nx := by
 refine aop_light fun L a w hi => ?_
 refine ⟨.string ⟨l.toArray⟩, ?_, by simp only [RepV, RepT]⟩
 have h := hi.ev x
 have go : ∀ (ad : Addr) (n c : Nat) (us : List Value), a.eval x = .slice (some ad) n c → us.length = n → (∀ (j : Nat) v, us[j]? = some v → w.cell? (ad.add j) = some v) → RepL L.I w cs us →
   (execOp a.eval o).run P w = .ok (.value (.string ⟨l.toArray⟩)) w := by
  intro ad n c us e1 hn hc hr
  obtain ⟨ns, hu, hln⟩ := bytesOf_rep hl hr
  have hload : (loadCells ad n).run P w = .ok (ns.map (Value.int .u8)).toArray w := by
   have := run_loadCells_list (P := P) w ad us hc
   rw [hn] at this
   rw [this, hu]
  have := run_bytesToString w ad n c ns hload
  rw [push_all, ← hln, show (ByteArray.empty.data ++ l.toArray) = l.toArray from Array.empty_append] at this
  simp only [execOp, ho, e1, Go.convert, Sem.run_bind, run_underlying hs, run_underlying hd, run_underlying he, Result.andThen_ok, this]
  rfl
 generalize hp : s.ev G x = p at h hx
 unfold hxM.toTS at hx
 split at hx
 ·rename_i n c
  injection hx with hx
  subst hx
  simp only [bytesOf, Option.some.injEq] at hl
  subst hl
  simp only [RepV, RepT] at h
  simp only [execOp, ho, h, Go.convert, Sem.run_bind, run_underlying hs, run_underlying hd, run_underlying he, Result.andThen_ok, Conv.bytesToString]
  rfl
 ·rename_i n cs'
  split at hx
  ·rename_i hn
   injection hx with hx
   subst hx
   simp only [RepV, RepT] at h
   obtain ⟨ad, c, e1, hc, hb⟩ := h
   rcases hb with ⟨h0, h1⟩ | ⟨h0, h1, h2⟩
   ·subst h1
    exact go ad n c [] e1 (by simp [h0]) (by simp) (by simp only [RepL])
   ·obtain ⟨b, o', sp⟩ := ad
    simp only at h0 h1 h2
    subst h0
    have : ∀ (cs : List T) (o' : Nat), RepC L.I w cs b o' → ∃ us : List Value, us.length = cs.length ∧ (∀ (j : Nat) v, us[j]? = some v → w.cell? ⟨b, o' + j, none⟩ = some v) ∧ RepL L.I w cs us := by
     intro cs
     induction cs with
     | nil => intro o' _; exact ⟨[], rfl, by simp, by simp only [RepL]⟩
     | cons d cs ih =>
      intro o' hr
      simp only [RepC] at hr
      obtain ⟨⟨v, hv, _, hd⟩, hr⟩ := hr
      obtain ⟨us, h1, h2, h3⟩ := ih (o' + 1) hr
      refine ⟨v :: us, by simp [h1], fun j y hj => ?_, by simp only [RepL]; exact ⟨v, us, rfl, hd, h3⟩⟩
      cases j with
      | zero => simp at hj; subst hj; simpa using hv
      | succ j => have := h2 j y (by simpa using hj); rwa [show o' + (j + 1) = o' + 1 + j by omega]
    obtain ⟨us, h3, h4, h5⟩ := this _ _ h2
    exact go ⟨b, o', none⟩ n c us e1 (by omega) (fun j v hj => by rw [add_none]; exact h4 j v hj) h5
  ·cases hx
 ·rename_i b o' n z
  split at hx
  ·rename_i ty cs' hlook
   split at hx
   ·rename_i hz
    obtain ⟨rfl, hz⟩ := hz
    simp only [RepV] at h
    obtain ⟨hb', hμ, c, e1, hc, _⟩ := h
    obtain ⟨xs, hxl, hcell, h1, hrep⟩ := row_values (hi.heap.rep b _ hlook)
    have hseg := hrep.drop_take o' n
    rw [allT_map hx] at hseg
    refine go ⟨L.μ b, o', none⟩ n c ((xs.drop o').take n) e1 (by simp; omega) (fun j v hj => ?_) hseg.toT
    rw [List.getElem?_take] at hj
    split at hj
    ·rw [List.getElem?_drop] at hj
     rw [add_none]; exact hcell _ v hj
    ·cases hj
   ·cases hx
  ·cases hx
 ·cases hx
theorem aop_mki {t : TypeId} {x : Operand} {d : TypeDesc} {p : PV} (ho : o.op = .makeInterface t x) (hu : P.underlying t = some d) (hne : ∀ ms, d = .interface ms → False) (hp : exM (.mki t) [s.ev G x] = some p) : AOp P G B o s p s.H s.nx :=
 aop_light fun L a w hi => by
  have h := hi.ev x
  have hrun : (execOp a.eval o).run P w = .ok (.value (.iface t (a.eval x))) w := by
   simp only [execOp, ho, Instr.makeInterface, Sem.run_bind, run_underlying hu, Result.andThen_ok]
   cases d <;> first | (exact (hne _ rfl).elim) | rfl
  refine ⟨_, hrun, ?_⟩
  generalize s.ev G x = q at h hp
  cases q with
  | t y =>
   simp only [exM, Option.some.injEq] at hp
   subst hp
   simp only [RepV, RepT] at h ⊢
   exact ⟨_, rfl, h⟩
  | _ =>
   simp only [exM, Option.some.injEq] at hp
   subst hp
   simp only [RepV] at h ⊢
   exact ⟨_, rfl, h⟩
theorem rep_ops {L : Loc} {a : Act} {w : World} (hi : Interp P G B L s a w) : ∀ l : List Operand, RepVL P L w ((l.map (compOpd G)).map (·.ev s.env)) (l.map a.eval)
 | [] => by simp only [List.map_nil, RepVL]
 | x :: r => by
  simp only [List.map_cons, RepVL]
  exact ⟨_, _, rfl, by rw [compOpd_ev]; exact hi.ev x, rep_ops hi r⟩
theorem aop_mkf {f : Fn} {first cap : Array Operand} {p : PV} (ho : o.op = .makeFunc f first cap) (hp : exM (.mkf f first.size) ((first.toList.map (compOpd G) ++ cap.toList.map (compOpd G)).map (·.ev s.env)) = some p) : AOp P G B o s p s.H s.nx :=
 aop_light fun L a w hi => by
  refine ⟨.func f (first.map a.eval) (cap.map a.eval), by simp [execOp, ho, Instr.makeFunc], ?_⟩
  have h1 := rep_ops hi first.toList
  have h2 := rep_ops hi cap.toList
  have l1 : ((first.toList.map (compOpd G)).map (·.ev s.env)).length = first.size := by simp
  generalize hF : (first.toList.map (compOpd G)).map (·.ev s.env) = F at h1 l1
  generalize hC : (cap.toList.map (compOpd G)).map (·.ev s.env) = C at h2
  rw [List.map_append, hF, hC] at hp
  simp only [exM, Option.some.injEq] at hp
  rw [← l1, List.take_left, List.drop_left] at hp
  subst hp
  unfold mkFn
  split
  ·simp only [RepVL] at h1 h2
   simp only [RepV, RepT]
   have e1 : first.map a.eval = #[] := by rw [← Array.toList_inj, Array.toList_map]; exact h1
   have e2 : cap.map a.eval = #[] := by rw [← Array.toList_inj, Array.toList_map]; exact h2
   rw [e1, e2]
  ·simp only [RepV]
   exact ⟨_, _, rfl, by rw [Array.toList_map]; exact h1, by rw [Array.toList_map]; exact h2⟩
theorem ext_aop {k : MK} {xs : List Opd} (hc : extK P G o.op = some (k, xs)) {r : PV} {H' : Heap} {nx' : Nat}
  (he : match k with
   | .ex e => ∃ p, exM e (xs.map (·.ev s.env)) = some p ∧ (r, H', nx') = (p, s.H, s.nx)
   | .hx h => hxM h s.H s.nx (xs.map (·.ev s.env)) = some (r, H', nx')
   | _ => False) : AOp P G B o s r H' nx' := by
 have ev1 := fun x => compOpd_ev G s x
 unfold extK at hc
 split at hc
 ·rename_i t x y yt ho
  obtain ⟨ks, hk, e⟩ := Option.map_eq_some_iff.1 hc
  injection e with e1 e2; subst e1; subst e2
  simp only [List.map_cons, List.map_nil, ev1] at he
  obtain ⟨p, hp, e⟩ := he
  injection e with e1 e2; injection e2 with e2 e3; subst e1; subst e2; subst e3
  exact aop_eqs (neg := false) (by simpa using ho) hk hp
 ·rename_i t x y yt ho
  obtain ⟨ks, hk, e⟩ := Option.map_eq_some_iff.1 hc
  injection e with e1 e2; subst e1; subst e2
  simp only [List.map_cons, List.map_nil, ev1] at he
  obtain ⟨p, hp, e⟩ := he
  injection e with e1 e2; injection e2 with e2 e3; subst e1; subst e2; subst e3
  exact aop_eqs (neg := true) (by simpa using ho) hk hp
 ·rename_i t x ho
  split at hc
  ·rename_i hu
   injection hc with hc; injection hc with e1 e2; subst e1; subst e2
   simp only [List.map_cons, List.map_nil, ev1] at he
   generalize hp : s.ev G x = p at he
   unfold hxM at he
   split at he
   all_goals (first | (rename_i e _; cases e; done) | (rename_i e; cases e; done) | skip)
   ·rename_i st e1 e2
    injection e2 with e2 e3
    injection he with he; injection he with h1 h2; injection h2 with h2 h3; subst h1; subst h2; subst h3
    exact aop_range ho hu (hp.trans e2)
   ·cases he
  ·cases hc
 ·rename_i x ho
  injection hc with hc; injection hc with e1 e2; subst e1; subst e2
  simp only [List.map_cons, List.map_nil, ev1] at he
  generalize hp : s.ev G x = p at he
  unfold hxM at he
  split at he
  all_goals (first | (rename_i e _; cases e; done) | (rename_i e; cases e; done) | skip)
  ·rename_i b e1 e2
   injection e2 with e2 e3
   split at he
   ·rename_i st pos hl
    split at he
    ·rename_i hlt
     injection he with he; injection he with h1 h2; injection h2 with h2 h3; subst h1; subst h2; subst h3
     exact aop_next ho (hp.trans e2) hl hlt
    ·rename_i hlt
     injection he with he; injection he with h1 h2; injection h2 with h2 h3; subst h1; subst h2; subst h3
     exact aop_over ho (hp.trans e2) hl hlt
   ·cases he
  ·cases he
 ·rename_i src dst x ho
  split at hc
  ·rename_i e hs hd
   split at hc
   ·rename_i he'
    injection hc with hc; injection hc with e1 e2; subst e1; subst e2
    simp only [List.map_cons, List.map_nil, ev1] at he
    generalize hp : s.ev G x = p at he
    unfold hxM at he
    split at he
    all_goals (first | (rename_i e _; cases e; done) | (rename_i e; cases e; done) | skip)
    ·rename_i q e1 e2
     injection e2 with e2 e3
     split at he
     ·rename_i cs hcs
      obtain ⟨l, hl, e4⟩ := Option.map_eq_some_iff.1 he
      injection e4 with h1 h2; injection h2 with h2 h3; subst h1; subst h2; subst h3
      exact aop_b2s ho hs hd he' (by rw [hp, e2]; exact hcs) hl
     ·cases he
    ·rename_i hno
     exact (hno p rfl rfl).elim
   ·cases hc
  ·cases hc
 ·rename_i t x ho
  split at hc
  ·cases hc
  ·rename_i d hne hu
   injection hc with hc; injection hc with e1 e2; subst e1; subst e2
   simp only [List.map_cons, List.map_nil, ev1] at he
   obtain ⟨p, hp, e⟩ := he
   injection e with e1 e2; injection e2 with e2 e3; subst e1; subst e2; subst e3
   exact aop_mki ho hu hne hp
  ·cases hc
 ·rename_i f first cap ho
  injection hc with hc; injection hc with e1 e2; subst e1; subst e2
  obtain ⟨p, hp, e⟩ := he
  injection e with e1 e2; injection e2 with e2 e3; subst e1; subst e2; subst e3
  exact aop_mkf ho hp
 ·injection hc with hc; injection hc with e1 e2; subst e1; subst e2
  simp only [List.map_cons, List.map_nil] at he
  unfold hxM at he
  split at he
  all_goals (first | (rename_i e _; cases e; done) | (rename_i e; cases e; done) | (cases he; done) | skip)
 ·cases hc
end
def loadM (agg : Bool) (n : Nat) (H : Heap) (p : PV) : Option PV :=
 match p with
 | .t (.pt cs) => if agg then (if n ≤ cs.length then some (.t (.ag (cs.take n))) else none) else (cs.head?).map .t
 | .ptr b o => match look H b with
  | some (.cells _ cs) => if agg then (if o + n ≤ cs.length then some (agOf ((cs.drop o).take n)) else none) else cs[o]?
  | _ => none
 | _ => none
theorem loadM_eq {P : Program} {t : TypeId} {agg : Bool} {n : Nat} (h : shapeOf P t = some (agg, n)) (H : Heap) (p : PV) : loadV P H t p = loadM agg n H p := by
 unfold loadV loadM
 rw [h]
 cases agg <;> cases p <;> try rfl
 all_goals (rename_i x; cases x <;> rfl)
def iaddrM (z : Nat) (x i : PV) : Option PV :=
 match i with
 | .t (.v (.int _ i)) => match x with
  | .t (.sl n cs) => if 0 ≤ i ∧ i < n then some (.t (.pt (cs.drop (i.toNat * z)))) else none
  | .row b o n _ => if 0 ≤ i ∧ i < n then some (.ptr b (o + i.toNat * z)) else none
  | _ => none
 | _ => none
def aaddrM (n z : Nat) (x i : PV) : Option PV :=
 match i with
 | .t (.v (.int _ i)) => match x with
  | .t (.pt cs) => if 0 ≤ i ∧ i < n then some (.t (.pt (cs.drop (i.toNat * z)))) else none
  | .ptr b o => if 0 ≤ i ∧ i < n then some (.ptr b (o + i.toNat * z)) else none
  | _ => none
 | _ => none
theorem iaddrM_sub {P : Program} {t e : TypeId} {z : Nat} (h : elemOf' P t = some (e, z)) {x i r : PV} (hr : iaddrM z x i = some r) : indexAddrV P t x i = some r := by
 unfold iaddrM at hr
 split at hr
 ·split at hr
  ·simp only [indexAddrV, h]; exact hr
  ·simp only [indexAddrV, h]; exact hr
  ·cases hr
 ·cases hr
theorem aaddrM_sub {P : Program} {t : TypeId} {n z : Nat} (h : arrOf P t = some (n, z)) {x i r : PV} (hr : aaddrM n z x i = some r) : indexAddrV P t x i = some r := by
 unfold aaddrM at hr
 split at hr
 ·split at hr
  ·simp only [indexAddrV, h]; exact hr
  ·simp only [indexAddrV, h]; exact hr
  ·cases hr
 ·cases hr
@[simp] def faddrM (off : Nat) (x : PV) : Option PV :=
 match x with
 | .t (.pt cs) => some (.t (.pt (cs.drop off)))
 | .ptr b o => some (.ptr b (o + off))
 | _ => none
theorem faddrM_eq {P : Program} {t : TypeId} {f off n : Nat} {b : Bool} (h : fieldOf P t f = some (off, b, n)) (x : PV) : fieldAddrV P t x f = faddrM off x := by
 unfold fieldAddrV faddrM
 rw [h]
 cases x <;> try rfl
 rename_i x; cases x <;> rfl
def fieldM (off : Nat) (agg : Bool) (n : Nat) (x : PV) : Option PV :=
 match x with
 | .t (.ag cs) => if agg then (if off + n ≤ cs.length then some (.t (.ag ((cs.drop off).take n))) else none) else (cs[off]?).map .t
 | .ag cs => if agg then (if off + n ≤ cs.length then some (agOf ((cs.drop off).take n)) else none) else cs[off]?
 | _ => none
theorem fieldM_eq {P : Program} {t : TypeId} {f off n : Nat} {b : Bool} (h : fieldOf P t f = some (off, b, n)) (x : PV) : fieldV P t x f = fieldM off b n x := by
 unfold fieldV fieldM
 rw [h]
 cases b <;> cases x <;> try rfl
 all_goals (rename_i x; cases x <;> rfl)
def indexM (x i : PV) : Option PV :=
 match x, i with
 | .t (.v (.string s)), .t (.v (.int _ i)) => if 0 ≤ i then (s[i.toNat]?).map fun b => .t (.v (.int .u8 b.toNat)) else none
 | _, _ => none
theorem indexM_sub {P : Program} {t : TypeId} (h : P.underlying t = some .string) {x i r : PV} (hr : indexM x i = some r) : indexV P t x i = some r := by
 unfold indexM at hr
 split at hr
 ·simp only [indexV, h]; exact hr
 ·cases hr
def slstrM (x : PV) (lo hi : Option PV) : Option PV :=
 match x with
 | .t (.v (.string s)) => match boundV lo 0, boundV hi s.size with
  | some l, some h => if l ≤ h ∧ h ≤ s.size then some (.t (.v (.string (s.extract l h)))) else none
  | _, _ => none
 | _ => none
theorem slstrM_sub {P : Program} {t : TypeId} (h : P.underlying t = some .string) {x r : PV} {lo hi : Option PV} (hr : slstrM x lo hi = some r) : sliceV P t x lo hi = some r := by
 unfold slstrM at hr
 split at hr
 ·simp only [sliceV, h]; exact hr
 ·cases hr
def sliceM (z : Nat) (x : PV) (lo hi : Option PV) : Option PV :=
 match x with
 | .t (.v (.slice none n c)) => match boundV lo 0, boundV hi n with
  | some l, some h => if l = 0 ∧ h = 0 ∧ n = 0 ∧ c = 0 then some (.t (.v (.slice none 0 0))) else none
  | _, _ => none
 | .t (.sl n cs) => match boundV lo 0, boundV hi n with
  | some l, some h => if l ≤ h ∧ h ≤ n then some (.t (.sl (h - l) ((cs.drop (l * z)).take ((h - l) * z)))) else none
  | _, _ => none
 | .row b o n z' => match boundV lo 0, boundV hi n with
  | some l, some h => if z ≠ z' then none else if l < h ∧ h ≤ n then some (.row b (o + l * z') (h - l) z') else if l = 0 ∧ h = 0 then some (.row b o 0 z') else if l = h ∧ h ≤ n then some (.t (.sl 0 [])) else none
  | _, _ => none
 | _ => none
theorem sliceM_sub {P : Program} {t e : TypeId} {z : Nat} (h : elemOf' P t = some (e, z)) {x r : PV} {lo hi : Option PV} (hr : sliceM z x lo hi = some r) : sliceV P t x lo hi = some r := by
 have hu : P.underlying t = some (.slice e) := by
  unfold elemOf' at h
  split at h
  ·rename_i e' hu
   cases hi : P.info? e' with
   | none => rw [hi] at h; cases h
   | some i => rw [hi] at h; injection h with h; injection h with h1 h2; subst h1; exact hu
  ·cases h
 unfold sliceM at hr
 split at hr
 ·split at hr
  ·rename_i el eh
   simp only [sliceV, hu, h, el, eh]; exact hr
  ·cases hr
 ·split at hr
  ·rename_i el eh
   simp only [sliceV, hu, h, el, eh]; exact hr
  ·cases hr
 ·split at hr
  ·rename_i el eh
   simp only [sliceV, hu, h, el, eh]; exact hr
  ·cases hr
 ·cases hr
@[simp] def lenstrM : PV → Option PV
 | .t (.v (.string s)) => some (.t (.v (.int .i64 s.size)))
 | _ => none
def lenslM : PV → Option PV
 | .t (.v (.slice _ n _)) => some (.t (.v (.int .i64 n)))
 | .t (.sl n _) => some (.t (.v (.int .i64 n)))
 | .row _ _ n _ => some (.t (.v (.int .i64 n)))
 | _ => none
@[simp] def convM (k : Option IntKind) : PV → Option PV
 | .t (.v (.int _ n)) => match k with
  | some k => some (.t (.v (.int k (k.wrap n))))
  | none => none
 | .t (.v (.string s)) => match k with
  | none => some (.t (.v (.string s)))
  | _ => none
 | _ => none
@[simp] def chkM : PV → Option PV
 | .ptr b o => some (.ptr b o)
 | .t (.pt cs) => some (.t (.pt cs))
 | .fn (.func f) first cap => some (.fn (.func f) first cap)
 | .t (.v (.func (.func f) x y)) => some (.t (.v (.func (.func f) x y)))
 | _ => none
def storeM (n : Nat) (H : Heap) (p x : PV) : Option Heap :=
 match p with
 | .ptr b o => match cellsP x with
  | some ps => match look H b with
   | some (.cells ty cs) => if ps.length = n ∧ o + ps.length ≤ cs.length then some (upd H b (.cells ty (splice cs o ps))) else none
   | _ => none
  | none => none
 | _ => none
theorem storeM_sub {P : Program} {t : TypeId} {b : Bool} {n : Nat} (h : shapeOf P t = some (b, n)) {H H' : Heap} {p x : PV} (hr : storeM n H p x = some H') : storeV P H t p x = some H' := by
 unfold storeM at hr
 split at hr
 ·split at hr
  ·rename_i hps
   simp only [storeV, h, hps]
   exact hr
  ·cases hr
 ·cases hr
def makeM (e n by' : Nat) (zc : List Value) (l c : PV) (nx : Nat) : Option (PV × Row) :=
 match l, c with
 | .t (.v (.int _ l)), .t (.v (.int _ c)) => if 0 ≤ l ∧ l ≤ c ∧ c ≤ 9223372036854775807 ∧ (by' : Int) * c ≤ 281474976710656 then some (.row nx 0 l.toNat n, .cells e (zeros zc l.toNat)) else none
 | _, _ => none
theorem makeM_sub {P : Program} {t e n by' : Nat} {zc : List Value} (h : elemInfo P t = some (e, n, by', zc)) {l c : PV} {nx : Nat} {q : PV × Row} (hr : makeM e n by' zc l c nx = some q) : makeV P t l c nx = some q := by
 unfold makeM at hr
 split at hr
 ·simp only [makeV, h]; exact hr
 ·cases hr
def bsliceM (e n : Nat) (zc : List Value) (len : Nat) (parts : List (Nat × PV)) (nx : Nat) : Option (PV × Row) :=
 if len * n ≤ 16777216 then (fillP (fun i => some (i * n, n)) (zeros zc len) parts).map fun cs => (.row nx 0 len n, .cells e cs) else none
def appM (e z by' : Nat) (H : Heap) (nx : Nat) (d x : PV) : Option (PV × Heap × Nat) :=
 match srcP H z x with
 | some (m, ps) => match d with
  | .t (.v (.slice none n c)) => if n = 0 ∧ c = 0 then
    (if m = 0 then some (.t (.v (.slice none n c)), H, nx) else if m * by' ≤ 140737488355328 ∧ m ≤ 9223372036854775807 then some (.row nx 0 m z, (nx, .cells e ps) :: H, nx + 1) else none) else none
  | .row b o n z' => match look H b with
   | some (.cells ty cs) =>
    if z' = z ∧ o = 0 ∧ ty = e ∧ cs.length = n * z ∧ (n + m) * by' ≤ 140737488355328 ∧ n + m ≤ 9223372036854775807 then some (.row nx 0 (n + m) z, (nx, .cells e (cs ++ ps)) :: rem H b, nx + 1) else none
   | _ => none
  | _ => none
 | none => none
theorem appM_sub {P : Program} {t e z by' : Nat} {zc : List Value} (h : elemInfo P t = some (e, z, by', zc)) {H : Heap} {nx : Nat} {d x : PV} {q : PV × Heap × Nat} (hr : appM e z by' H nx d x = some q) : appendV P H nx t d x = some q := by
 unfold appM at hr
 split at hr
 ·rename_i m ps hs
  split at hr
  ·simp only [appendV, h, hs]; exact hr
  ·simp only [appendV, h, hs]; exact hr
  ·cases hr
 ·cases hr
def tsliceM (e n : Nat) (zc : List Value) (len : Nat) (parts : List (Nat × PV)) : Option PV :=
 match bsliceM e n zc len parts 0 with
 | some (_, .cells _ cs) => match allT cs with
  | some ts => if ts.length = len * n then some (.t (.sl len ts)) else none
  | none => none
 | _ => none
def evalK (Φ : Oracle) (H : Heap) (nx : Nat) (k : MK) (ps : List PV) : Option (PV × Heap × Nat) :=
 match k, ps with
 | .mv, [x] => some (x, H, nx)
 | .pick, [c, a, b] => match c with
  | .t (.v (.bool t)) => some (bif t then a else b, H, nx)
  | _ => none
 | .bin isB op nk, [x, y] => match x, y with
  | .t (.v a), .t (.v b) => match binM isB op a b with
   | some v => some (.t (.v v), H, nx)
   | none => (cmpM op nk (.t (.v a))).map fun r => (r, H, nx)
  | x, _ => (cmpM op nk x).map fun r => (r, H, nx)
 | .un op, [x] => match x with
  | .t (.v a) => (unV op a).map fun v => (.t (.v v), H, nx)
  | _ => none
 | .conv k, [x] => (convM k x).map fun r => (r, H, nx)
 | .load agg n, [p] => (loadM agg n H p).map fun r => (r, H, nx)
 | .faddr off, [x] => (faddrM off x).map fun r => (r, H, nx)
 | .field off agg n, [x] => (fieldM off agg n x).map fun r => (r, H, nx)
 | .iaddr z, [x, i] => (iaddrM z x i).map fun r => (r, H, nx)
 | .aaddr n z, [x, i] => (aaddrM n z x i).map fun r => (r, H, nx)
 | .index, [x, i] => (indexM x i).map fun r => (r, H, nx)
 | .slstr false false, [x] => (slstrM x none none).map fun r => (r, H, nx)
 | .slstr true false, [x, l] => (slstrM x (some l) none).map fun r => (r, H, nx)
 | .slstr false true, [x, h] => (slstrM x none (some h)).map fun r => (r, H, nx)
 | .slstr true true, [x, l, h] => (slstrM x (some l) (some h)).map fun r => (r, H, nx)
 | .slice z false false, [x] => (sliceM z x none none).map fun r => (r, H, nx)
 | .slice z true false, [x, l] => (sliceM z x (some l) none).map fun r => (r, H, nx)
 | .slice z false true, [x, h] => (sliceM z x none (some h)).map fun r => (r, H, nx)
 | .slice z true true, [x, l, h] => (sliceM z x (some l) (some h)).map fun r => (r, H, nx)
 | .ext i, [x] => (extractV x i).map fun r => (r, H, nx)
 | .chk, [x] => (chkM x).map fun r => (r, H, nx)
 | .lenstr, [x] => (lenstrM x).map fun r => (r, H, nx)
 | .lensl, [x] => (lenslM x).map fun r => (r, H, nx)
 | .min, [x, y] => (minV x y).map fun r => (r, H, nx)
 | .max, [x, y] => (maxV x y).map fun r => (r, H, nx)
 | .store n, [p, x] => (storeM n H p x).map fun H' => (.t (.v undef), H', nx)
 | .make e n by' zc, [l, c] => (makeM e n by' zc l c nx).map fun q => (q.1, (nx, q.2) :: H, nx + 1)
 | .bslice e n zc len idx, ps => (bsliceM e n zc len (idx.zip ps) nx).map fun q => (q.1, (nx, q.2) :: H, nx + 1)
 | .build places zc idx, ps => (fillP (fun k => places[k]?) (zc.map fun x => .t (.v x)) (idx.zip ps)).map fun cs => (agOf cs, H, nx)
 | .barr n zc idx, ps => (fillP (fun k => some (k * n, n)) (zc.map fun x => .t (.v x)) (idx.zip ps)).map fun cs => (agOf cs, H, nx)
 | .box t, [x] => (cellsP x).map fun ps => (.ptr nx 0, (nx, .cells t ps) :: H, nx + 1)
 | .alloc t zc, [] => some (.ptr nx 0, (nx, .cells t (zc.map fun x => .t (.v x))) :: H, nx + 1)
 | .app e z by', [d, x] => appM e z by' H nx d x
 | .call f, ps => match toTs H ps with
  | some (targs, F) => match Φ f targs with
   | some r => some (.t r, if F.isEmpty then H else if plainT r then H else remAll H F, nx)
   | none => none
  | none => none
 | .hcall f, ps => Φ.h f ps H nx
 | .tslice e n zc len idx, ps => (tsliceM e n zc len (idx.zip ps)).map fun r => (r, H, nx)
 | .callv, fv :: ps => callvM Φ H nx fv ps
 | .ex e, ps => (exM e ps).map fun r => (r, H, nx)
 | .hx h, ps => hxM h H nx ps
 | _, _ => none
def compOp (P : Program) (G : Globs) (o : Op) : Option (MK × List Opd) :=
 match o with
 | .move x => some (.mv, [compOpd G x])
 | .assign x => some (.mv, [compOpd G x])
 | .pick c a b => some (.pick, [compOpd G c, compOpd G a, compOpd G b])
 | .binOp op t x y _ => some (.bin (isBoolT P t) op (nkOf P t y), [compOpd G x, compOpd G y])
 | .unOp op _ x => some (.un op, [compOpd G x])
 | .convert src dst x => match P.underlying src, P.underlying dst with
  | some _, some (.int k) => some (.conv (some k), [compOpd G x])
  | some _, some .string => some (.conv none, [compOpd G x])
  | _, _ => none
 | .load t a => (shapeOf P t).map fun q => (.load q.1 q.2, [compOpd G a])
 | .fieldAddr t x f => (fieldOf P t f).map fun q => (.faddr q.1, [compOpd G x])
 | .field t x f => (fieldOf P t f).map fun q => (.field q.1 q.2.1 q.2.2, [compOpd G x])
 | .indexAddr t x i => match elemOf' P t with
  | some (_, z) => some (.iaddr z, [compOpd G x, compOpd G i])
  | none => (arrOf P t).map fun q => (.aaddr q.1 q.2, [compOpd G x, compOpd G i])
 | .index t x i => match P.underlying t with
  | some .string => some (.index, [compOpd G x, compOpd G i])
  | _ => none
 | .slice t x lo hi none => match P.underlying t with
  | some .string => some (.slstr lo.isSome hi.isSome, compOpd G x :: ((lo.map (compOpd G)).toList ++ (hi.map (compOpd G)).toList))
  | _ => match elemOf' P t with
   | some (_, z) => some (.slice z lo.isSome hi.isSome, compOpd G x :: ((lo.map (compOpd G)).toList ++ (hi.map (compOpd G)).toList))
   | none => none
 | .extract x i => some (.ext i, [compOpd G x])
 | .nilCheck x => some (.chk, [compOpd G x])
 | .store t a x => (shapeOf P t).map fun q => (.store q.2, [compOpd G a, compOpd G x])
 | .makeSlice t l c => (elemInfo P t).map fun q => (.make q.1 q.2.1 q.2.2.1 q.2.2.2, [compOpd G l, compOpd G c])
 | .buildSlice t len parts => (elemInfo P t).map fun q => (.bslice q.1 q.2.1 q.2.2.2 len (parts.toList.map (·.1)), parts.toList.map fun p => compOpd G p.2)
 | .build t parts => match P.underlying t, zeroCellsOf P t with
  | some (.array _ e), some zc => (P.info? e).map fun i => (.barr i.size zc (parts.toList.map (·.1)), parts.toList.map fun p => compOpd G p.2)
  | some (.struct fields), some zc => (fields.toList.mapM (fun f => (P.info? f.type).map fun i => (f.offset, i.size))).map fun places => (.build places zc (parts.toList.map (·.1)), parts.toList.map fun p => compOpd G p.2)
  | _, _ => none
 | .box t x => some (.box t, [compOpd G x])
 | .alloc t => (zeroCellsOf P t).map fun zc => (.alloc t zc, [])
 | .call ⟨.builtin .append, ⟨[x, y]⟩, ⟨[t, t']⟩⟩ => if t = t' then (elemInfo P t).map fun q => (.app q.1 q.2.1 q.2.2.1, [compOpd G x, compOpd G y]) else none
 | .call ⟨.builtin .len, ⟨[x]⟩, ⟨[t]⟩⟩ => match P.underlying t with
  | some .string => some (.lenstr, [compOpd G x])
  | some (.slice _) => some (.lensl, [compOpd G x])
  | _ => none
 | .call ⟨.builtin .min, ⟨[x, y]⟩, _⟩ => some (.min, [compOpd G x, compOpd G y])
 | .call ⟨.builtin .max, ⟨[x, y]⟩, _⟩ => some (.max, [compOpd G x, compOpd G y])
 | .call ⟨.value (.func f), args, ts⟩ => if ts.toList.any (refT P) || hot.contains f then some (.hcall f, args.toList.map (compOpd G)) else some (.call f, args.toList.map (compOpd G))
 | .call ⟨.value x, args, _⟩ => some (.callv, compOpd G x :: args.toList.map (compOpd G))
 | _ => some (.bad, [])
theorem zip_parts (G : Globs) (s : AState) (parts : List (Nat × Operand)) : (parts.map (·.1)).zip ((parts.map fun p => compOpd G p.2).map (·.ev s.env)) = parts.map fun p => (p.1, s.ev G p.2) := by
 induction parts with
 | nil => rfl
 | cons p r ih => simp only [List.map_cons, List.zip_cons_cons, ih, compOpd_ev]
theorem map_opt {α β : Type} {x : Option α} {f : α → β} {y : β} (h : x.map f = some y) : ∃ a, x = some a ∧ f a = y := by
 cases x with
 | none => cases h
 | some a => exact ⟨a, rfl, by simpa using h⟩
theorem compOp_sound {P : Program} {G : Globs} {Φ : Oracle} {s : AState} {o : Op} {k : MK} {xs : List Opd} {q : PV × Heap × Nat} (hc : compOp P G o = some (k, xs))
  (he : evalK Φ s.H s.nx k (xs.map (·.ev s.env)) = some q) : valV P G Φ s o = some q := by
 have ev1 := fun x => compOpd_ev G s x
 unfold compOp at hc
 split at hc
 ·rename_i x
  injection hc with hc; injection hc with h1 h2; subst h1; subst h2
  simp only [List.map_cons, List.map_nil, evalK, ev1] at he
  simpa [valV, opV, lightV] using he
 ·rename_i x
  injection hc with hc; injection hc with h1 h2; subst h1; subst h2
  simp only [List.map_cons, List.map_nil, evalK, ev1] at he
  simpa [valV, opV, lightV] using he
 ·rename_i c a b
  injection hc with hc; injection hc with h1 h2; subst h1; subst h2
  simp only [List.map_cons, List.map_nil, evalK, ev1] at he
  simp only [valV, opV, lightV]
  split at he
  ·rename_i t ht; rw [ht]; simpa using he
  ·cases he
 ·rename_i op t x y yt
  injection hc with hc; injection hc with h1 h2; subst h1; subst h2
  simp only [List.map_cons, List.map_nil, evalK, ev1] at he
  simp only [valV, opV, lightV]
  split at he
  ·rename_i a b ha hb
   rw [ha, hb]
   simp only [binM_eq]
   split at he
   ·rename_i v hv; rw [hv]; simpa using he
   ·rename_i hv
    rw [hv]
    obtain ⟨r, hr, rfl⟩ := map_opt he
    simp [cmpM_sub P op t _ y hr]
  ·rename_i hne
   obtain ⟨r, hr, rfl⟩ := map_opt he
   have hcm := cmpM_sub P op t _ y hr
   split
   ·rename_i a b ha hb; exact absurd hb (hne a b ha)
   ·simp [hcm]
 ·rename_i op t x
  injection hc with hc; injection hc with h1 h2; subst h1; subst h2
  simp only [List.map_cons, List.map_nil, evalK, ev1] at he
  simp only [valV, opV, lightV]
  split at he
  ·rename_i a ha
   rw [ha]
   obtain ⟨v, hv, rfl⟩ := map_opt he
   simp only [hv, Option.map_some, Option.some.injEq]
  ·cases he
 ·rename_i src dst x
  simp only [valV, opV, lightV]
  split at hc
  ·rename_i d k' hs hd
   injection hc with hc; injection hc with h1 h2; subst h1; subst h2
   simp only [List.map_cons, List.map_nil, evalK, ev1] at he
   obtain ⟨r, hr, rfl⟩ := map_opt he
   unfold convM at hr
   split at hr
   ·rename_i n hx
    rw [hx]
    simp only [convV, hs, hd]
    simpa using hr
   ·simp at hr
   ·cases hr
  ·rename_i d hs hd
   injection hc with hc; injection hc with h1 h2; subst h1; subst h2
   simp only [List.map_cons, List.map_nil, evalK, ev1] at he
   obtain ⟨r, hr, rfl⟩ := map_opt he
   unfold convM at hr
   split at hr
   ·simp at hr
   ·rename_i n hx
    rw [hx]
    simp only [convV, hs, hd]
    simpa using hr
   ·cases hr
  ·cases hc
 ·rename_i t a
  obtain ⟨⟨b, n⟩, hq, h⟩ := map_opt hc
  injection h with h1 h2; subst h1; subst h2
  simp only [List.map_cons, List.map_nil, evalK, ev1] at he
  simpa [valV, opV, lightV, loadM_eq hq] using he
 ·rename_i t x f
  obtain ⟨⟨off, b, n⟩, hq, h⟩ := map_opt hc
  injection h with h1 h2; subst h1; subst h2
  simp only [List.map_cons, List.map_nil, evalK, ev1] at he
  simpa [valV, opV, lightV, faddrM_eq hq] using he
 ·rename_i t x f
  obtain ⟨⟨off, b, n⟩, hq, h⟩ := map_opt hc
  injection h with h1 h2; subst h1; subst h2
  simp only [List.map_cons, List.map_nil, evalK, ev1] at he
  simpa [valV, opV, lightV, fieldM_eq hq] using he
 ·rename_i t x i
  split at hc
  ·rename_i e z hz
   injection hc with hc; injection hc with h1 h2; subst h1; subst h2
   simp only [List.map_cons, List.map_nil, evalK, ev1] at he
   obtain ⟨r, hr, rfl⟩ := map_opt he
   simp [valV, opV, lightV, iaddrM_sub hz hr]
  ·obtain ⟨⟨n, z⟩, hq, h⟩ := map_opt hc
   injection h with h1 h2; subst h1; subst h2
   simp only [List.map_cons, List.map_nil, evalK, ev1] at he
   obtain ⟨r, hr, rfl⟩ := map_opt he
   simp [valV, opV, lightV, aaddrM_sub hq hr]
 ·rename_i t x i
  split at hc
  ·rename_i hu
   injection hc with hc; injection hc with h1 h2; subst h1; subst h2
   simp only [List.map_cons, List.map_nil, evalK, ev1] at he
   obtain ⟨r, hr, rfl⟩ := map_opt he
   simp [valV, opV, lightV, indexM_sub hu hr]
  ·cases hc
 ·rename_i t x lo hi
  split at hc
  ·rename_i hu
   injection hc with hc; injection hc with h1 h2; subst h1; subst h2
   cases lo <;> cases hi <;> simp only [Option.isSome_none, Option.isSome_some, Option.map_none, Option.map_some, Option.toList_none, Option.toList_some, List.nil_append, List.append_nil, List.cons_append, List.map_cons, List.map_nil, evalK, ev1] at he
   all_goals (obtain ⟨r, hr, rfl⟩ := map_opt he; simp [valV, opV, lightV, slstrM_sub hu hr])
  ·split at hc
   ·rename_i e z hz
    injection hc with hc; injection hc with h1 h2; subst h1; subst h2
    cases lo <;> cases hi <;> simp only [Option.isSome_none, Option.isSome_some, Option.map_none, Option.map_some, Option.toList_none, Option.toList_some, List.nil_append, List.append_nil, List.cons_append, List.map_cons, List.map_nil, evalK, ev1] at he
    all_goals (obtain ⟨r, hr, rfl⟩ := map_opt he; simp [valV, opV, lightV, sliceM_sub hz hr])
   ·cases hc
 ·rename_i x i
  injection hc with hc; injection hc with h1 h2; subst h1; subst h2
  simp only [List.map_cons, List.map_nil, evalK, ev1] at he
  simpa [valV, opV, lightV] using he
 ·rename_i x
  injection hc with hc; injection hc with h1 h2; subst h1; subst h2
  simp only [List.map_cons, List.map_nil, evalK, ev1] at he
  simp only [valV, opV, lightV]
  obtain ⟨r, hr, rfl⟩ := map_opt he
  unfold chkM at hr
  split at hr
  all_goals (first | (cases hr; done) | (rename_i hx; rw [hx]; simpa using hr))
 ·rename_i t a x
  obtain ⟨⟨b, n⟩, hq, h⟩ := map_opt hc
  injection h with h1 h2; subst h1; subst h2
  simp only [List.map_cons, List.map_nil, evalK, ev1] at he
  obtain ⟨H', hr, rfl⟩ := map_opt he
  simp [valV, opV, storeM_sub hq hr]
 ·rename_i t l c
  obtain ⟨⟨e, n, by', zc⟩, hq, h⟩ := map_opt hc
  injection h with h1 h2; subst h1; subst h2
  simp only [List.map_cons, List.map_nil, evalK, ev1] at he
  obtain ⟨r, hr, rfl⟩ := map_opt he
  simp [valV, opV, makeM_sub hq hr]
 ·rename_i t len parts
  obtain ⟨⟨e, n, by', zc⟩, hq, h⟩ := map_opt hc
  injection h with h1 h2; subst h1; subst h2
  simp only [evalK, zip_parts] at he
  obtain ⟨r, hr, rfl⟩ := map_opt he
  have : buildSliceV P t len (parts.toList.map fun p => (p.1, s.ev G p.2)) s.nx = some r := by
   simp only [buildSliceV, hq]; exact hr
  simp [valV, opV, this]
 ·rename_i t parts
  split at hc
  ·rename_i n e zc hu hz
   obtain ⟨i, hq, h⟩ := map_opt hc
   injection h with h1 h2; subst h1; subst h2
   simp only [evalK, zip_parts] at he
   obtain ⟨cs, hr, rfl⟩ := map_opt he
   simp [valV, opV, buildV, placeOf, hu, hq, hz, hr]
  ·rename_i fields zc hu hz
   obtain ⟨places, hq, h⟩ := map_opt hc
   injection h with h1 h2; subst h1; subst h2
   simp only [evalK, zip_parts] at he
   obtain ⟨cs, hr, rfl⟩ := map_opt he
   simp [valV, opV, buildV, placeOf, hu, hq, hz, hr]
  ·cases hc
 ·rename_i t x
  injection hc with hc; injection hc with h1 h2; subst h1; subst h2
  simp only [List.map_cons, List.map_nil, evalK, ev1] at he
  simpa [valV, opV] using he
 ·rename_i t
  obtain ⟨zc, hq, h⟩ := map_opt hc
  injection h with h1 h2; subst h1; subst h2
  simp only [List.map_nil, evalK] at he
  simpa [valV, opV, hq] using he
 ·rename_i x y t t'
  split at hc
  ·rename_i e
   subst e
   obtain ⟨⟨e, n, by', zc⟩, hq, h⟩ := map_opt hc
   injection h with h1 h2; subst h1; subst h2
   simp only [List.map_cons, List.map_nil, evalK, ev1] at he
   simp [valV, opV, appM_sub hq he]
  ·cases hc
 ·rename_i x t
  split at hc
  ·rename_i hu
   injection hc with hc; injection hc with h1 h2; subst h1; subst h2
   simp only [List.map_cons, List.map_nil, evalK, ev1] at he
   obtain ⟨r, hr, rfl⟩ := map_opt he
   unfold lenstrM at hr
   split at hr
   ·rename_i st hx
    have : lenV P t (s.ev G x) = some r := by rw [hx]; simp only [lenV, hu]; exact hr
    simp [valV, opV, lightV, builtinV, this]
   ·cases hr
  ·rename_i e hu
   injection hc with hc; injection hc with h1 h2; subst h1; subst h2
   simp only [List.map_cons, List.map_nil, evalK, ev1] at he
   obtain ⟨r, hr, rfl⟩ := map_opt he
   unfold lenslM at hr
   split at hr
   all_goals (first | (cases hr; done) | skip)
   all_goals
    rename_i hx
    have : lenV P t (s.ev G x) = some r := by rw [hx]; simp only [lenV, hu]; exact hr
    simp [valV, opV, lightV, builtinV, this]
  ·cases hc
 ·rename_i x y ts
  injection hc with hc; injection hc with h1 h2; subst h1; subst h2
  simp only [List.map_cons, List.map_nil, evalK, ev1] at he
  simpa [valV, opV, lightV, builtinV] using he
 ·rename_i x y ts
  injection hc with hc; injection hc with h1 h2; subst h1; subst h2
  simp only [List.map_cons, List.map_nil, evalK, ev1] at he
  simpa [valV, opV, lightV, builtinV] using he
 ·rename_i f args ts
  have e : (args.toList.map (compOpd G)).map (·.ev s.env) = args.toList.map (s.ev G) := by
   rw [List.map_map]
   exact List.map_congr_left fun x _ => ev1 x
  split at hc
  ·rename_i hr
   injection hc with hc; injection hc with h1 h2; subst h1; subst h2
   simp only [evalK, e] at he
   simp only [valV, hr, if_true]
   exact he
  ·rename_i hr
   injection hc with hc; injection hc with h1 h2; subst h1; subst h2
   simp only [evalK, e] at he
   simp only [valV, hr, Bool.false_eq_true, if_false]
   exact he
 ·rename_i x args ts hne
  injection hc with hc; injection hc with h1 h2; subst h1; subst h2
  have e : (args.toList.map (compOpd G)).map (·.ev s.env) = args.toList.map (s.ev G) := by
   rw [List.map_map]
   exact List.map_congr_left fun x _ => ev1 x
  simp only [List.map_cons, evalK, e, ev1] at he
  unfold valV
  split
  ·rename_i f' a' t' heq
   injection heq with heq
   injection heq with h1 h2 h3
   injection h1 with h1
   exact absurd h1 (hne f')
  ·rename_i x' a' t' _ heq
   injection heq with heq
   injection heq with h1 h2 h3
   injection h1 with h1
   subst h1; subst h2
   exact he
  ·rename_i h1 h2
   exact absurd rfl (h2 _ _ _)
 ·injection hc with hc; injection hc with h1 h2; subst h1; subst h2
  simp [evalK] at he
def litT : Op → Bool
 | .buildSlice _ len _ => len != 0
 | _ => true
def opK (P : Program) (G : Globs) (d : Bool) (o : Op) : MK × List Opd :=
 match extK P G o with
 | some q => q
 | none =>
 match d && litT o, o with
 | true, .buildSlice t len parts => match elemInfo P t with
  | some q => (.tslice q.1 q.2.1 q.2.2.2 len (parts.toList.map (·.1)), parts.toList.map fun p => compOpd G p.2)
  | none => (.bad, [])
 | _, o => match compOp P G o with
  | some q => q
  | none => (.bad, [])
theorem opK_aop {P : Program} {G : Globs} {B : Nat} {Φ : Oracle} {s : AState} {o : Oper} {d : Bool} {k : MK} {xs : List Opd} (hΦ : Φ.Sound P G) (hc : opK P G d o.op = (k, xs)) {r : PV} {H' : Heap} {nx' : Nat}
  (he : evalK Φ s.H s.nx k (xs.map (·.ev s.env)) = some (r, H', nx')) : AOp P G B o s r H' nx' := by
 unfold opK at hc
 split at hc
 ·rename_i q hq
  subst hc
  refine ext_aop hq ?_
  cases k <;> simp only
  case ex e =>
   simp only [evalK] at he
   obtain ⟨p, hp, e1⟩ := map_opt he
   exact ⟨p, hp, e1.symm⟩
  case hx h => simpa only [evalK] using he
  all_goals (exact absurd hq (extK_kind (by simp)))
 split at hc
 ·rename_i t len parts _ ho
  split at hc
  ·rename_i q hq
   obtain ⟨e, n, by', zc⟩ := q
   injection hc with h1 h2
   subst h1; subst h2
   simp only [evalK, zip_parts] at he
   obtain ⟨x, hx, e1⟩ := map_opt he
   injection e1 with e1 e2; injection e2 with e2 e3; subst e1; subst e2; subst e3
   unfold tsliceM at hx
   split at hx
   ·rename_i p0 ty cs hb
    split at hx
    ·rename_i ts hts
     split at hx
     ·rename_i hl
      injection hx with hx; subst hx
      unfold bsliceM at hb
      split at hb
      ·rename_i hsz
       obtain ⟨cs', hf, e4⟩ := map_opt hb
       injection e4 with e4 e5; injection e5 with e5 e6; subst e6
       have hbs : buildSliceV P t len (parts.toList.map fun p => (p.1, s.ev G p.2)) s.nx = some (.row s.nx 0 len n, .cells e (ts.map .t)) := by
        simp only [buildSliceV, hq]
        rw [if_pos hsz, hf, ← allT_map hts]
        rfl
       exact aop_newT hl (run_buildSlice ho hbs)
      ·cases hb
     ·cases hx
    ·cases hx
   ·cases hx
  ·injection hc with h1 h2
   subst h1
   simp [evalK] at he
 ·split at hc
  ·rename_i q hq
   subst hc
   exact aop_valV hΦ (compOp_sound hq he)
  ·injection hc with h1 h2
   subst h1
   simp [evalK] at he
end Go.Abs
