/-
  Operations with all that hangs on types worked out ahead, further: what each gives ('evalK'), how it is compiled from the program's own operation ('compOp'), and that the two agree. No statement of the program stands here.
-/
import Derived.Test.YtbiadmfmjnoecaaA11
namespace Go.Abs
set_option linter.unusedSimpArgs false
set_option linter.unusedVariables false
open Go

def loadM (agg : Bool) (n : Nat) (H : Heap) (p : PV) : Option PV :=
  match p with
  | .t (.pt cs) => if agg then (if n ≤ cs.length then some (.t (.ag (cs.take n))) else none) else (cs.head?).map .t
  | .ptr b o => match look H b with
    | some (.cells _ cs) => if agg then (if o + n ≤ cs.length then some (agOf ((cs.drop o).take n)) else none) else cs[o]?
    | _ => none
  | _ => none

theorem loadM_eq {P : Program} {t : TypeId} {agg : Bool} {n : Nat} (h : shapeOf P t = some (agg, n)) (H : Heap) (p : PV) : loadV P H t p = loadM agg n H p := by
  unfold loadV loadM
  rw [h]
  cases agg <;> cases p <;> try rfl
  all_goals (rename_i x; cases x <;> rfl)

def iaddrM (z : Nat) (x i : PV) : Option PV :=
  match i with
  | .t (.v (.int _ i)) => match x with
    | .t (.sl n cs) => if 0 ≤ i ∧ i < n then some (.t (.pt (cs.drop (i.toNat * z)))) else none
    | .row b o n _ => if 0 ≤ i ∧ i < n then some (.ptr b (o + i.toNat * z)) else none
    | _ => none
  | _ => none

def aaddrM (n z : Nat) (x i : PV) : Option PV :=
  match i with
  | .t (.v (.int _ i)) => match x with
    | .t (.pt cs) => if 0 ≤ i ∧ i < n then some (.t (.pt (cs.drop (i.toNat * z)))) else none
    | .ptr b o => if 0 ≤ i ∧ i < n then some (.ptr b (o + i.toNat * z)) else none
    | _ => none
  | _ => none

theorem iaddrM_sub {P : Program} {t e : TypeId} {z : Nat} (h : elemOf' P t = some (e, z)) {x i r : PV} (hr : iaddrM z x i = some r) : indexAddrV P t x i = some r := by
  unfold iaddrM at hr
  split at hr
  · split at hr
    · simp only [indexAddrV, h]; exact hr
    · simp only [indexAddrV, h]; exact hr
    · cases hr
  · cases hr

theorem aaddrM_sub {P : Program} {t : TypeId} {n z : Nat} (h : arrOf P t = some (n, z)) {x i r : PV} (hr : aaddrM n z x i = some r) : indexAddrV P t x i = some r := by
  unfold aaddrM at hr
  split at hr
  · split at hr
    · simp only [indexAddrV, h]; exact hr
    · simp only [indexAddrV, h]; exact hr
    · cases hr
  · cases hr

@[simp] def faddrM (off : Nat) (x : PV) : Option PV :=
  match x with
  | .t (.pt cs) => some (.t (.pt (cs.drop off)))
  | .ptr b o => some (.ptr b (o + off))
  | _ => none

theorem faddrM_eq {P : Program} {t : TypeId} {f off n : Nat} {b : Bool} (h : fieldOf P t f = some (off, b, n)) (x : PV) : fieldAddrV P t x f = faddrM off x := by
  unfold fieldAddrV faddrM
  rw [h]
  cases x <;> try rfl
  rename_i x; cases x <;> rfl

def fieldM (off : Nat) (agg : Bool) (n : Nat) (x : PV) : Option PV :=
  match x with
  | .t (.ag cs) => if agg then (if off + n ≤ cs.length then some (.t (.ag ((cs.drop off).take n))) else none) else (cs[off]?).map .t
  | .ag cs => if agg then (if off + n ≤ cs.length then some (agOf ((cs.drop off).take n)) else none) else cs[off]?
  | _ => none

theorem fieldM_eq {P : Program} {t : TypeId} {f off n : Nat} {b : Bool} (h : fieldOf P t f = some (off, b, n)) (x : PV) : fieldV P t x f = fieldM off b n x := by
  unfold fieldV fieldM
  rw [h]
  cases b <;> cases x <;> try rfl
  all_goals (rename_i x; cases x <;> rfl)

def indexM (x i : PV) : Option PV :=
  match x, i with
  | .t (.v (.string s)), .t (.v (.int _ i)) => if 0 ≤ i then (s[i.toNat]?).map fun b => .t (.v (.int .u8 b.toNat)) else none
  | _, _ => none

theorem indexM_sub {P : Program} {t : TypeId} (h : P.underlying t = some .string) {x i r : PV} (hr : indexM x i = some r) : indexV P t x i = some r := by
  unfold indexM at hr
  split at hr
  · simp only [indexV, h]; exact hr
  · cases hr

def slstrM (x : PV) (lo hi : Option PV) : Option PV :=
  match x with
  | .t (.v (.string s)) => match boundV lo 0, boundV hi s.size with
    | some l, some h => if l ≤ h ∧ h ≤ s.size then some (.t (.v (.string (s.extract l h)))) else none
    | _, _ => none
  | _ => none

theorem slstrM_sub {P : Program} {t : TypeId} (h : P.underlying t = some .string) {x r : PV} {lo hi : Option PV} (hr : slstrM x lo hi = some r) : sliceV P t x lo hi = some r := by
  unfold slstrM at hr
  split at hr
  · simp only [sliceV, h]; exact hr
  · cases hr

def sliceM (z : Nat) (x : PV) (lo hi : Option PV) : Option PV :=
  match x with
  | .t (.v (.slice none n c)) => match boundV lo 0, boundV hi n with
    | some l, some h => if l = 0 ∧ h = 0 ∧ n = 0 ∧ c = 0 then some (.t (.v (.slice none 0 0))) else none
    | _, _ => none
  | .t (.sl n cs) => match boundV lo 0, boundV hi n with
    | some l, some h => if l ≤ h ∧ h ≤ n then some (.t (.sl (h - l) ((cs.drop (l * z)).take ((h - l) * z)))) else none
    | _, _ => none
  | .row b o n z' => match boundV lo 0, boundV hi n with
    | some l, some h => if z ≠ z' then none else if l < h ∧ h ≤ n then some (.row b (o + l * z') (h - l) z') else if l = 0 ∧ h = 0 then some (.row b o 0 z') else if l = h ∧ h ≤ n then some (.t (.sl 0 [])) else none
    | _, _ => none
  | _ => none

theorem sliceM_sub {P : Program} {t e : TypeId} {z : Nat} (h : elemOf' P t = some (e, z)) {x r : PV} {lo hi : Option PV} (hr : sliceM z x lo hi = some r) : sliceV P t x lo hi = some r := by
  have hu : P.underlying t = some (.slice e) := by
    unfold elemOf' at h
    split at h
    · rename_i e' hu
      cases hi : P.info? e' with
      | none => rw [hi] at h; cases h
      | some i => rw [hi] at h; injection h with h; injection h with h1 h2; subst h1; exact hu
    · cases h
  unfold sliceM at hr
  split at hr
  · split at hr
    · rename_i el eh
      simp only [sliceV, hu, h, el, eh]; exact hr
    · cases hr
  · split at hr
    · rename_i el eh
      simp only [sliceV, hu, h, el, eh]; exact hr
    · cases hr
  · split at hr
    · rename_i el eh
      simp only [sliceV, hu, h, el, eh]; exact hr
    · cases hr
  · cases hr

@[simp] def lenstrM : PV → Option PV
  | .t (.v (.string s)) => some (.t (.v (.int .i64 s.size)))
  | _ => none
def lenslM : PV → Option PV
  | .t (.v (.slice _ n _)) => some (.t (.v (.int .i64 n)))
  | .t (.sl n _) => some (.t (.v (.int .i64 n)))
  | .row _ _ n _ => some (.t (.v (.int .i64 n)))
  | _ => none

@[simp] def convM (k : Option IntKind) : PV → Option PV
  | .t (.v (.int _ n)) => match k with
    | some k => some (.t (.v (.int k (k.wrap n))))
    | none => none
  | .t (.v (.string s)) => match k with
    | none => some (.t (.v (.string s)))
    | _ => none
  | _ => none

@[simp] def chkM : PV → Option PV
  | .ptr b o => some (.ptr b o)
  | .t (.pt cs) => some (.t (.pt cs))
  | .fn (.func f) first cap => some (.fn (.func f) first cap)
  | .t (.v (.func (.func f) x y)) => some (.t (.v (.func (.func f) x y)))
  | _ => none

def storeM (n : Nat) (H : Heap) (p x : PV) : Option Heap :=
  match p with
  | .ptr b o => match cellsP x with
    | some ps => match look H b with
      | some (.cells ty cs) => if ps.length = n ∧ o + ps.length ≤ cs.length then some (upd H b (.cells ty (splice cs o ps))) else none
      | _ => none
    | none => none
  | _ => none

theorem storeM_sub {P : Program} {t : TypeId} {b : Bool} {n : Nat} (h : shapeOf P t = some (b, n)) {H H' : Heap} {p x : PV} (hr : storeM n H p x = some H') : storeV P H t p x = some H' := by
  unfold storeM at hr
  split at hr
  · split at hr
    · rename_i hps
      simp only [storeV, h, hps]
      exact hr
    · cases hr
  · cases hr

def makeM (e n by' : Nat) (zc : List Value) (l c : PV) (nx : Nat) : Option (PV × Row) :=
  match l, c with
  | .t (.v (.int _ l)), .t (.v (.int _ c)) => if 0 ≤ l ∧ l ≤ c ∧ c ≤ 9223372036854775807 ∧ (by' : Int) * c ≤ 281474976710656 then some (.row nx 0 l.toNat n, .cells e (zeros zc l.toNat)) else none
  | _, _ => none

theorem makeM_sub {P : Program} {t e n by' : Nat} {zc : List Value} (h : elemInfo P t = some (e, n, by', zc)) {l c : PV} {nx : Nat} {q : PV × Row} (hr : makeM e n by' zc l c nx = some q) : makeV P t l c nx = some q := by
  unfold makeM at hr
  split at hr
  · simp only [makeV, h]; exact hr
  · cases hr

def bsliceM (e n : Nat) (zc : List Value) (len : Nat) (parts : List (Nat × PV)) (nx : Nat) : Option (PV × Row) :=
  if len * n ≤ 16777216 then (fillP (fun i => some (i * n, n)) (zeros zc len) parts).map fun cs => (.row nx 0 len n, .cells e cs) else none

def appM (e z by' : Nat) (H : Heap) (nx : Nat) (d x : PV) : Option (PV × Heap × Nat) :=
  match srcP H z x with
  | some (m, ps) => match d with
    | .t (.v (.slice none n c)) => if n = 0 ∧ c = 0 then
        (if m = 0 then some (.t (.v (.slice none n c)), H, nx) else if m * by' ≤ 140737488355328 ∧ m ≤ 9223372036854775807 then some (.row nx 0 m z, (nx, .cells e ps) :: H, nx + 1) else none) else none
    | .row b o n z' => match look H b with
      | some (.cells ty cs) =>
        if z' = z ∧ o = 0 ∧ ty = e ∧ cs.length = n * z ∧ (n + m) * by' ≤ 140737488355328 ∧ n + m ≤ 9223372036854775807 then some (.row nx 0 (n + m) z, (nx, .cells e (cs ++ ps)) :: rem H b, nx + 1) else none
      | _ => none
    | _ => none
  | none => none

theorem appM_sub {P : Program} {t e z by' : Nat} {zc : List Value} (h : elemInfo P t = some (e, z, by', zc)) {H : Heap} {nx : Nat} {d x : PV} {q : PV × Heap × Nat} (hr : appM e z by' H nx d x = some q) : appendV P H nx t d x = some q := by
  unfold appM at hr
  split at hr
  · rename_i m ps hs
    split at hr
    · simp only [appendV, h, hs]; exact hr
    · simp only [appendV, h, hs]; exact hr
    · cases hr
  · cases hr

/-- A slice's literal whose row is never written again. -/
def tsliceM (e n : Nat) (zc : List Value) (len : Nat) (parts : List (Nat × PV)) : Option PV :=
  match bsliceM e n zc len parts 0 with
  | some (_, .cells _ cs) => match allT cs with
    | some ts => if ts.length = len * n then some (.t (.sl len ts)) else none
    | none => none
  | _ => none

/-- An operation's value, and the rows behind it. -/
def evalK (Φ : Oracle) (H : Heap) (nx : Nat) (k : MK) (ps : List PV) : Option (PV × Heap × Nat) :=
  match k, ps with
  | .mv, [x] => some (x, H, nx)
  | .pick, [c, a, b] => match c with
    | .t (.v (.bool t)) => some (bif t then a else b, H, nx)
    | _ => none
  | .bin isB op nk, [x, y] => match x, y with
    | .t (.v a), .t (.v b) => match binM isB op a b with
      | some v => some (.t (.v v), H, nx)
      | none => (cmpM op nk (.t (.v a))).map fun r => (r, H, nx)
    | x, _ => (cmpM op nk x).map fun r => (r, H, nx)
  | .un op, [x] => match x with
    | .t (.v a) => (unV op a).map fun v => (.t (.v v), H, nx)
    | _ => none
  | .conv k, [x] => (convM k x).map fun r => (r, H, nx)
  | .load agg n, [p] => (loadM agg n H p).map fun r => (r, H, nx)
  | .faddr off, [x] => (faddrM off x).map fun r => (r, H, nx)
  | .field off agg n, [x] => (fieldM off agg n x).map fun r => (r, H, nx)
  | .iaddr z, [x, i] => (iaddrM z x i).map fun r => (r, H, nx)
  | .aaddr n z, [x, i] => (aaddrM n z x i).map fun r => (r, H, nx)
  | .index, [x, i] => (indexM x i).map fun r => (r, H, nx)
  | .slstr false false, [x] => (slstrM x none none).map fun r => (r, H, nx)
  | .slstr true false, [x, l] => (slstrM x (some l) none).map fun r => (r, H, nx)
  | .slstr false true, [x, h] => (slstrM x none (some h)).map fun r => (r, H, nx)
  | .slstr true true, [x, l, h] => (slstrM x (some l) (some h)).map fun r => (r, H, nx)
  | .slice z false false, [x] => (sliceM z x none none).map fun r => (r, H, nx)
  | .slice z true false, [x, l] => (sliceM z x (some l) none).map fun r => (r, H, nx)
  | .slice z false true, [x, h] => (sliceM z x none (some h)).map fun r => (r, H, nx)
  | .slice z true true, [x, l, h] => (sliceM z x (some l) (some h)).map fun r => (r, H, nx)
  | .ext i, [x] => (extractV x i).map fun r => (r, H, nx)
  | .chk, [x] => (chkM x).map fun r => (r, H, nx)
  | .lenstr, [x] => (lenstrM x).map fun r => (r, H, nx)
  | .lensl, [x] => (lenslM x).map fun r => (r, H, nx)
  | .min, [x, y] => (minV x y).map fun r => (r, H, nx)
  | .max, [x, y] => (maxV x y).map fun r => (r, H, nx)
  | .store n, [p, x] => (storeM n H p x).map fun H' => (.t (.v undef), H', nx)
  | .make e n by' zc, [l, c] => (makeM e n by' zc l c nx).map fun q => (q.1, (nx, q.2) :: H, nx + 1)
  | .bslice e n zc len idx, ps => (bsliceM e n zc len (idx.zip ps) nx).map fun q => (q.1, (nx, q.2) :: H, nx + 1)
  | .build places zc idx, ps => (fillP (fun k => places[k]?) (zc.map fun x => .t (.v x)) (idx.zip ps)).map fun cs => (agOf cs, H, nx)
  | .barr n zc idx, ps => (fillP (fun k => some (k * n, n)) (zc.map fun x => .t (.v x)) (idx.zip ps)).map fun cs => (agOf cs, H, nx)
  | .box t, [x] => (cellsP x).map fun ps => (.ptr nx 0, (nx, .cells t ps) :: H, nx + 1)
  | .alloc t zc, [] => some (.ptr nx 0, (nx, .cells t (zc.map fun x => .t (.v x))) :: H, nx + 1)
  | .app e z by', [d, x] => appM e z by' H nx d x
  | .call f, ps => match toTs H ps with
    | some (targs, F) => match Φ f targs with
      | some r => some (.t r, if F.isEmpty then H else if plainT r then H else remAll H F, nx)
      | none => none
    | none => none
  | .hcall f, ps => Φ.h f ps H nx
  | .tslice e n zc len idx, ps => (tsliceM e n zc len (idx.zip ps)).map fun r => (r, H, nx)
  | .callv, fv :: ps => callvM Φ H nx fv ps
  | _, _ => none

/-- The compact form of an operation. -/
def compOp (P : Program) (G : Globs) (o : Op) : Option (MK × List Opd) :=
  match o with
  | .move x => some (.mv, [compOpd G x])
  | .assign x => some (.mv, [compOpd G x])
  | .pick c a b => some (.pick, [compOpd G c, compOpd G a, compOpd G b])
  | .binOp op t x y _ => some (.bin (isBoolT P t) op (nkOf P t y), [compOpd G x, compOpd G y])
  | .unOp op _ x => some (.un op, [compOpd G x])
  | .convert src dst x => match P.underlying src, P.underlying dst with
    | some _, some (.int k) => some (.conv (some k), [compOpd G x])
    | some _, some .string => some (.conv none, [compOpd G x])
    | _, _ => none
  | .load t a => (shapeOf P t).map fun q => (.load q.1 q.2, [compOpd G a])
  | .fieldAddr t x f => (fieldOf P t f).map fun q => (.faddr q.1, [compOpd G x])
  | .field t x f => (fieldOf P t f).map fun q => (.field q.1 q.2.1 q.2.2, [compOpd G x])
  | .indexAddr t x i => match elemOf' P t with
    | some (_, z) => some (.iaddr z, [compOpd G x, compOpd G i])
    | none => (arrOf P t).map fun q => (.aaddr q.1 q.2, [compOpd G x, compOpd G i])
  | .index t x i => match P.underlying t with
    | some .string => some (.index, [compOpd G x, compOpd G i])
    | _ => none
  | .slice t x lo hi none => match P.underlying t with
    | some .string => some (.slstr lo.isSome hi.isSome, compOpd G x :: ((lo.map (compOpd G)).toList ++ (hi.map (compOpd G)).toList))
    | _ => match elemOf' P t with
      | some (_, z) => some (.slice z lo.isSome hi.isSome, compOpd G x :: ((lo.map (compOpd G)).toList ++ (hi.map (compOpd G)).toList))
      | none => none
  | .extract x i => some (.ext i, [compOpd G x])
  | .nilCheck x => some (.chk, [compOpd G x])
  | .store t a x => (shapeOf P t).map fun q => (.store q.2, [compOpd G a, compOpd G x])
  | .makeSlice t l c => (elemInfo P t).map fun q => (.make q.1 q.2.1 q.2.2.1 q.2.2.2, [compOpd G l, compOpd G c])
  | .buildSlice t len parts => (elemInfo P t).map fun q => (.bslice q.1 q.2.1 q.2.2.2 len (parts.toList.map (·.1)), parts.toList.map fun p => compOpd G p.2)
  | .build t parts => match P.underlying t, zeroCellsOf P t with
    | some (.array _ e), some zc => (P.info? e).map fun i => (.barr i.size zc (parts.toList.map (·.1)), parts.toList.map fun p => compOpd G p.2)
    | some (.struct fields), some zc => (fields.toList.mapM (fun f => (P.info? f.type).map fun i => (f.offset, i.size))).map fun places => (.build places zc (parts.toList.map (·.1)), parts.toList.map fun p => compOpd G p.2)
    | _, _ => none
  | .box t x => some (.box t, [compOpd G x])
  | .alloc t => (zeroCellsOf P t).map fun zc => (.alloc t zc, [])
  | .call ⟨.builtin .append, ⟨[x, y]⟩, ⟨[t, t']⟩⟩ => if t = t' then (elemInfo P t).map fun q => (.app q.1 q.2.1 q.2.2.1, [compOpd G x, compOpd G y]) else none
  | .call ⟨.builtin .len, ⟨[x]⟩, ⟨[t]⟩⟩ => match P.underlying t with
    | some .string => some (.lenstr, [compOpd G x])
    | some (.slice _) => some (.lensl, [compOpd G x])
    | _ => none
  | .call ⟨.builtin .min, ⟨[x, y]⟩, _⟩ => some (.min, [compOpd G x, compOpd G y])
  | .call ⟨.builtin .max, ⟨[x, y]⟩, _⟩ => some (.max, [compOpd G x, compOpd G y])
  | .call ⟨.value (.func f), args, ts⟩ => if ts.toList.any (refT P) || hot.contains f then some (.hcall f, args.toList.map (compOpd G)) else some (.call f, args.toList.map (compOpd G))
  | .call ⟨.value x, args, _⟩ => some (.callv, compOpd G x :: args.toList.map (compOpd G))
  | _ => some (.bad, [])

theorem zip_parts (G : Globs) (s : AState) (parts : List (Nat × Operand)) : (parts.map (·.1)).zip ((parts.map fun p => compOpd G p.2).map (·.ev s.env)) = parts.map fun p => (p.1, s.ev G p.2) := by
  induction parts with
  | nil => rfl
  | cons p r ih => simp only [List.map_cons, List.zip_cons_cons, ih, compOpd_ev]

theorem map_opt {α β : Type} {x : Option α} {f : α → β} {y : β} (h : x.map f = some y) : ∃ a, x = some a ∧ f a = y := by
  cases x with
  | none => cases h
  | some a => exact ⟨a, rfl, by simpa using h⟩

theorem compOp_sound {P : Program} {G : Globs} {Φ : Oracle} {s : AState} {o : Op} {k : MK} {xs : List Opd} {q : PV × Heap × Nat} (hc : compOp P G o = some (k, xs))
    (he : evalK Φ s.H s.nx k (xs.map (·.ev s.env)) = some q) : valV P G Φ s o = some q := by
  have ev1 := fun x => compOpd_ev G s x
  unfold compOp at hc
  split at hc
  · rename_i x
    injection hc with hc; injection hc with h1 h2; subst h1; subst h2
    simp only [List.map_cons, List.map_nil, evalK, ev1] at he
    simpa [valV, opV, lightV] using he
  · rename_i x
    injection hc with hc; injection hc with h1 h2; subst h1; subst h2
    simp only [List.map_cons, List.map_nil, evalK, ev1] at he
    simpa [valV, opV, lightV] using he
  · rename_i c a b
    injection hc with hc; injection hc with h1 h2; subst h1; subst h2
    simp only [List.map_cons, List.map_nil, evalK, ev1] at he
    simp only [valV, opV, lightV]
    split at he
    · rename_i t ht; rw [ht]; simpa using he
    · cases he
  · rename_i op t x y yt
    injection hc with hc; injection hc with h1 h2; subst h1; subst h2
    simp only [List.map_cons, List.map_nil, evalK, ev1] at he
    simp only [valV, opV, lightV]
    split at he
    · rename_i a b ha hb
      rw [ha, hb]
      simp only [binM_eq]
      split at he
      · rename_i v hv; rw [hv]; simpa using he
      · rename_i hv
        rw [hv]
        obtain ⟨r, hr, rfl⟩ := map_opt he
        simp [cmpM_sub P op t _ y hr]
    · rename_i hne
      obtain ⟨r, hr, rfl⟩ := map_opt he
      have hcm := cmpM_sub P op t _ y hr
      split
      · rename_i a b ha hb; exact absurd hb (hne a b ha)
      · simp [hcm]
  · rename_i op t x
    injection hc with hc; injection hc with h1 h2; subst h1; subst h2
    simp only [List.map_cons, List.map_nil, evalK, ev1] at he
    simp only [valV, opV, lightV]
    split at he
    · rename_i a ha
      rw [ha]
      obtain ⟨v, hv, rfl⟩ := map_opt he
      simp only [hv, Option.map_some, Option.some.injEq]
    · cases he
  · rename_i src dst x
    simp only [valV, opV, lightV]
    split at hc
    · rename_i d k' hs hd
      injection hc with hc; injection hc with h1 h2; subst h1; subst h2
      simp only [List.map_cons, List.map_nil, evalK, ev1] at he
      obtain ⟨r, hr, rfl⟩ := map_opt he
      unfold convM at hr
      split at hr
      · rename_i n hx
        rw [hx]
        simp only [convV, hs, hd]
        simpa using hr
      · simp at hr
      · cases hr
    · rename_i d hs hd
      injection hc with hc; injection hc with h1 h2; subst h1; subst h2
      simp only [List.map_cons, List.map_nil, evalK, ev1] at he
      obtain ⟨r, hr, rfl⟩ := map_opt he
      unfold convM at hr
      split at hr
      · simp at hr
      · rename_i n hx
        rw [hx]
        simp only [convV, hs, hd]
        simpa using hr
      · cases hr
    · cases hc
  · rename_i t a
    obtain ⟨⟨b, n⟩, hq, h⟩ := map_opt hc
    injection h with h1 h2; subst h1; subst h2
    simp only [List.map_cons, List.map_nil, evalK, ev1] at he
    simpa [valV, opV, lightV, loadM_eq hq] using he
  · rename_i t x f
    obtain ⟨⟨off, b, n⟩, hq, h⟩ := map_opt hc
    injection h with h1 h2; subst h1; subst h2
    simp only [List.map_cons, List.map_nil, evalK, ev1] at he
    simpa [valV, opV, lightV, faddrM_eq hq] using he
  · rename_i t x f
    obtain ⟨⟨off, b, n⟩, hq, h⟩ := map_opt hc
    injection h with h1 h2; subst h1; subst h2
    simp only [List.map_cons, List.map_nil, evalK, ev1] at he
    simpa [valV, opV, lightV, fieldM_eq hq] using he
  · rename_i t x i
    split at hc
    · rename_i e z hz
      injection hc with hc; injection hc with h1 h2; subst h1; subst h2
      simp only [List.map_cons, List.map_nil, evalK, ev1] at he
      obtain ⟨r, hr, rfl⟩ := map_opt he
      simp [valV, opV, lightV, iaddrM_sub hz hr]
    · obtain ⟨⟨n, z⟩, hq, h⟩ := map_opt hc
      injection h with h1 h2; subst h1; subst h2
      simp only [List.map_cons, List.map_nil, evalK, ev1] at he
      obtain ⟨r, hr, rfl⟩ := map_opt he
      simp [valV, opV, lightV, aaddrM_sub hq hr]
  · rename_i t x i
    split at hc
    · rename_i hu
      injection hc with hc; injection hc with h1 h2; subst h1; subst h2
      simp only [List.map_cons, List.map_nil, evalK, ev1] at he
      obtain ⟨r, hr, rfl⟩ := map_opt he
      simp [valV, opV, lightV, indexM_sub hu hr]
    · cases hc
  · rename_i t x lo hi
    split at hc
    · rename_i hu
      injection hc with hc; injection hc with h1 h2; subst h1; subst h2
      cases lo <;> cases hi <;> simp only [Option.isSome_none, Option.isSome_some, Option.map_none, Option.map_some, Option.toList_none, Option.toList_some, List.nil_append, List.append_nil, List.cons_append, List.map_cons, List.map_nil, evalK, ev1] at he
      all_goals (obtain ⟨r, hr, rfl⟩ := map_opt he; simp [valV, opV, lightV, slstrM_sub hu hr])
    · split at hc
      · rename_i e z hz
        injection hc with hc; injection hc with h1 h2; subst h1; subst h2
        cases lo <;> cases hi <;> simp only [Option.isSome_none, Option.isSome_some, Option.map_none, Option.map_some, Option.toList_none, Option.toList_some, List.nil_append, List.append_nil, List.cons_append, List.map_cons, List.map_nil, evalK, ev1] at he
        all_goals (obtain ⟨r, hr, rfl⟩ := map_opt he; simp [valV, opV, lightV, sliceM_sub hz hr])
      · cases hc
  · rename_i x i
    injection hc with hc; injection hc with h1 h2; subst h1; subst h2
    simp only [List.map_cons, List.map_nil, evalK, ev1] at he
    simpa [valV, opV, lightV] using he
  · rename_i x
    injection hc with hc; injection hc with h1 h2; subst h1; subst h2
    simp only [List.map_cons, List.map_nil, evalK, ev1] at he
    simp only [valV, opV, lightV]
    obtain ⟨r, hr, rfl⟩ := map_opt he
    unfold chkM at hr
    split at hr
    all_goals (first | (cases hr; done) | (rename_i hx; rw [hx]; simpa using hr))
  · rename_i t a x
    obtain ⟨⟨b, n⟩, hq, h⟩ := map_opt hc
    injection h with h1 h2; subst h1; subst h2
    simp only [List.map_cons, List.map_nil, evalK, ev1] at he
    obtain ⟨H', hr, rfl⟩ := map_opt he
    simp [valV, opV, storeM_sub hq hr]
  · rename_i t l c
    obtain ⟨⟨e, n, by', zc⟩, hq, h⟩ := map_opt hc
    injection h with h1 h2; subst h1; subst h2
    simp only [List.map_cons, List.map_nil, evalK, ev1] at he
    obtain ⟨r, hr, rfl⟩ := map_opt he
    simp [valV, opV, makeM_sub hq hr]
  · rename_i t len parts
    obtain ⟨⟨e, n, by', zc⟩, hq, h⟩ := map_opt hc
    injection h with h1 h2; subst h1; subst h2
    simp only [evalK, zip_parts] at he
    obtain ⟨r, hr, rfl⟩ := map_opt he
    have : buildSliceV P t len (parts.toList.map fun p => (p.1, s.ev G p.2)) s.nx = some r := by
      simp only [buildSliceV, hq]; exact hr
    simp [valV, opV, this]
  · rename_i t parts
    split at hc
    · rename_i n e zc hu hz
      obtain ⟨i, hq, h⟩ := map_opt hc
      injection h with h1 h2; subst h1; subst h2
      simp only [evalK, zip_parts] at he
      obtain ⟨cs, hr, rfl⟩ := map_opt he
      simp [valV, opV, buildV, placeOf, hu, hq, hz, hr]
    · rename_i fields zc hu hz
      obtain ⟨places, hq, h⟩ := map_opt hc
      injection h with h1 h2; subst h1; subst h2
      simp only [evalK, zip_parts] at he
      obtain ⟨cs, hr, rfl⟩ := map_opt he
      simp [valV, opV, buildV, placeOf, hu, hq, hz, hr]
    · cases hc
  · rename_i t x
    injection hc with hc; injection hc with h1 h2; subst h1; subst h2
    simp only [List.map_cons, List.map_nil, evalK, ev1] at he
    simpa [valV, opV] using he
  · rename_i t
    obtain ⟨zc, hq, h⟩ := map_opt hc
    injection h with h1 h2; subst h1; subst h2
    simp only [List.map_nil, evalK] at he
    simpa [valV, opV, hq] using he
  · rename_i x y t t'
    split at hc
    · rename_i e
      subst e
      obtain ⟨⟨e, n, by', zc⟩, hq, h⟩ := map_opt hc
      injection h with h1 h2; subst h1; subst h2
      simp only [List.map_cons, List.map_nil, evalK, ev1] at he
      simp [valV, opV, appM_sub hq he]
    · cases hc
  · rename_i x t
    split at hc
    · rename_i hu
      injection hc with hc; injection hc with h1 h2; subst h1; subst h2
      simp only [List.map_cons, List.map_nil, evalK, ev1] at he
      obtain ⟨r, hr, rfl⟩ := map_opt he
      unfold lenstrM at hr
      split at hr
      · rename_i st hx
        have : lenV P t (s.ev G x) = some r := by rw [hx]; simp only [lenV, hu]; exact hr
        simp [valV, opV, lightV, builtinV, this]
      · cases hr
    · rename_i e hu
      injection hc with hc; injection hc with h1 h2; subst h1; subst h2
      simp only [List.map_cons, List.map_nil, evalK, ev1] at he
      obtain ⟨r, hr, rfl⟩ := map_opt he
      unfold lenslM at hr
      split at hr
      all_goals (first | (cases hr; done) | skip)
      all_goals
        rename_i hx
        have : lenV P t (s.ev G x) = some r := by rw [hx]; simp only [lenV, hu]; exact hr
        simp [valV, opV, lightV, builtinV, this]
    · cases hc
  · rename_i x y ts
    injection hc with hc; injection hc with h1 h2; subst h1; subst h2
    simp only [List.map_cons, List.map_nil, evalK, ev1] at he
    simpa [valV, opV, lightV, builtinV] using he
  · rename_i x y ts
    injection hc with hc; injection hc with h1 h2; subst h1; subst h2
    simp only [List.map_cons, List.map_nil, evalK, ev1] at he
    simpa [valV, opV, lightV, builtinV] using he
  · rename_i f args ts
    have e : (args.toList.map (compOpd G)).map (·.ev s.env) = args.toList.map (s.ev G) := by
      rw [List.map_map]
      exact List.map_congr_left fun x _ => ev1 x
    split at hc
    · rename_i hr
      injection hc with hc; injection hc with h1 h2; subst h1; subst h2
      simp only [evalK, e] at he
      simp only [valV, hr, if_true]
      exact he
    · rename_i hr
      injection hc with hc; injection hc with h1 h2; subst h1; subst h2
      simp only [evalK, e] at he
      simp only [valV, hr, Bool.false_eq_true, if_false]
      exact he
  · rename_i x args ts hne
    injection hc with hc; injection hc with h1 h2; subst h1; subst h2
    have e : (args.toList.map (compOpd G)).map (·.ev s.env) = args.toList.map (s.ev G) := by
      rw [List.map_map]
      exact List.map_congr_left fun x _ => ev1 x
    simp only [List.map_cons, evalK, e, ev1] at he
    unfold valV
    split
    · rename_i f' a' t' heq
      injection heq with heq
      injection heq with h1 h2 h3
      injection h1 with h1
      exact absurd h1 (hne f')
    · rename_i x' a' t' _ heq
      injection heq with heq
      injection heq with h1 h2 h3
      injection h1 with h1
      subst h1; subst h2
      exact he
    · rename_i h1 h2
      exact absurd rfl (h2 _ _ _)
  · injection hc with hc; injection hc with h1 h2; subst h1; subst h2
    simp [evalK] at he

/-- The compact form of an operation, whatever it is; d: in a region that draws its order, where a slice's literal is a tree at once. -/
def opK (P : Program) (G : Globs) (d : Bool) (o : Op) : MK × List Opd :=
  match d, o with
  | true, .buildSlice t len parts => match elemInfo P t with
    | some q => (.tslice q.1 q.2.1 q.2.2.2 len (parts.toList.map (·.1)), parts.toList.map fun p => compOpd G p.2)
    | none => (.bad, [])
  | _, o => match compOp P G o with
    | some q => q
    | none => (.bad, [])

theorem opK_aop {P : Program} {G : Globs} {B : Nat} {Φ : Oracle} {s : AState} {o : Oper} {d : Bool} {k : MK} {xs : List Opd} (hΦ : Φ.Sound P G) (hc : opK P G d o.op = (k, xs)) {r : PV} {H' : Heap} {nx' : Nat}
    (he : evalK Φ s.H s.nx k (xs.map (·.ev s.env)) = some (r, H', nx')) : AOp P G B o s r H' nx' := by
  unfold opK at hc
  split at hc
  · rename_i t len parts ho
    split at hc
    · rename_i q hq
      obtain ⟨e, n, by', zc⟩ := q
      injection hc with h1 h2
      subst h1; subst h2
      simp only [evalK, zip_parts] at he
      obtain ⟨x, hx, e1⟩ := map_opt he
      injection e1 with e1 e2; injection e2 with e2 e3; subst e1; subst e2; subst e3
      unfold tsliceM at hx
      split at hx
      · rename_i p0 ty cs hb
        split at hx
        · rename_i ts hts
          split at hx
          · rename_i hl
            injection hx with hx; subst hx
            unfold bsliceM at hb
            split at hb
            · rename_i hsz
              obtain ⟨cs', hf, e4⟩ := map_opt hb
              injection e4 with e4 e5; injection e5 with e5 e6; subst e6
              have hbs : buildSliceV P t len (parts.toList.map fun p => (p.1, s.ev G p.2)) s.nx = some (.row s.nx 0 len n, .cells e (ts.map .t)) := by
                simp only [buildSliceV, hq]
                rw [if_pos hsz, hf, ← allT_map hts]
                rfl
              exact aop_newT hl (run_buildSlice ho hbs)
            · cases hb
          · cases hx
        · cases hx
      · cases hx
    · injection hc with h1 h2
      subst h1
      simp [evalK] at he
  · split at hc
    · rename_i q hq
      subst hc
      exact aop_valV hΦ (compOp_sound hq he)
    · injection hc with h1 h2
      subst h1
      simp [evalK] at he

end Go.Abs
