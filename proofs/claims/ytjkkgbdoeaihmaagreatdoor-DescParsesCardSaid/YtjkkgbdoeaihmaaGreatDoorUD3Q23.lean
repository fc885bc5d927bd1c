/-
 Auxiliary facts. No statement of the program stands here.
-/
import Derived.Test.YtjkkgbdoeaihmaaGreatDoorUD3Q22
import Derived.Test.YtjkkgbdoeaihmaaGreatDoorUD3Q16
namespace Go.Abs
set_option linter.unusedSimpArgs false
set_option linter.unusedVariables false
open Go
section
variable {P : Program} {G : A0t} {B N : Nat} {Φ : A0u} {E : Pans} {Q : Exit -> A0b -> Prop} {s : A0b}
def panM (E : Pans) (s : A0b) (m : Mini) : Option A2m :=
 match m.k with
 | .hcall f => match m.wants s.env with
  | some true => E f (m.xs.map (·.ev s.env)) s.H s.nx
  | _ => none
 | _ => none
def A7m (Φ : A0u) (E : Pans) : Nat -> Pend -> List GI -> A0b -> (A0b -> Prop) -> (A2m -> Prop) -> Prop
 | _, _, [], s, K, _ => K s
 | n, pd, .o m kp ag :: r, s, K, X => C7b (panM E s m) X (A1x (valD Φ s m) fun q => A7d Φ pd q.2.1 q.2.2 ag (A7m Φ E (n + 1) (B5c kp n m s q.1 pd) r (s.set m.dst q) K X))
 | _, _, .g _ _ :: _, _, _, _ => False
theorem B4y : ∀ (l : List GI) {n : Nat} {pd : Pend} {s : A0b} {K : A0b -> Prop} {X : A2m -> Prop}, A7m Φ E n pd l s K X ->
  A7t Φ 0 n 0 pd l s K \/ ∃ (pe : Nat) (m : Mini) (kp : Bool) (ag : List Nat) (ch : A2m), l[pe]? = some (.o m kp ag) /\ A7t Φ 0 n 0 pd (l.take pe) s (fun s1 => panM E s1 m = some ch) /\ X ch
 | [], n, pd, s, K, X, h => .inl h
 | .g _ _ :: _, n, pd, s, K, X, h => h.elim
 | .o m kp ag :: r, n, pd, s, K, X, h => by
  simp only [A7m] at h
  cases hp : panM E s m with
  | some ch =>
   rw [hp] at h
   exact .inr ⟨0, m, kp, ag, ch, rfl, hp, h⟩
  | none =>
   rw [hp, onPan_none] at h
   obtain ⟨q, hv, hk⟩ := A3e h
   obtain ⟨h1, h2⟩ := B3t hk
   have back : ∀ C : Prop, C -> A7d Φ pd q.2.1 q.2.2 ag C := by
    intro C hC
    have : ∀ ks : List Nat, agnP Φ pd q.2.1 q.2.2 ks -> A7d Φ pd q.2.1 q.2.2 ks C := by
     intro ks
     induction ks with
     | nil => intro _; exact hC
     | cons i r ih =>
      intro hh
      obtain ⟨x, hx, he⟩ := hh i (by simp)
      show A1x (look pd i) _
      rw [hx]
      exact ⟨he, ih fun j hj => hh j (by simp [hj])⟩
    exact this ag h1
   rcases B4y r h2 with h3 | ⟨pe, m', kp', ag', ch, h3, h4, h5⟩
   ·left
    show A1x (valD Φ s m) _
    rw [hv]
    exact back _ h3
   ·right
    refine ⟨pe + 1, m', kp', ag', ch, by simpa using h3, ?_, h5⟩
    rw [List.take_succ_cons]
    show A1x (valD Φ s m) _
    rw [hv]
    exact back _ h4
theorem C4m (hΦ : Ctx P G Φ) (hE : POK P G E) {l : List GI} (h : A7m Φ E 0 [] l s (Q .normal) (anyP Q)) : MC P G B N (.drawG 0 l) Q s := by
 rcases B4y l h with h1 | ⟨pe, m, kp, ag, ch, h3, h4, h5⟩
 ·exact A0c hΦ h1
 ·intro c hc hn
  obtain ⟨id, ops, lt, π, pa, R, rfl, hl, hd, hsh, he, hlate⟩ := A1v hc
  obtain ⟨s1, hr, hp⟩ := B2d _ h4
  unfold panM at hp
  split at hp
  ·rename_i f hk
   split at hp
   ·rename_i hw
    -- the prefix
    have hple : pe < l.length := (List.getElem?_eq_some_iff.1 h3).1
    have hshp : B6i pa 0 (R.filter fun r => decide (r.2 < pe)) (l.take pe) = true := by
     unfold B6i at hsh ⊢
     rw [Bool.and_eq_true] at hsh ⊢
     refine ⟨List.all_eq_true.2 fun x hx => ?_, List.all_eq_true.2 fun r hr => ?_⟩
     ·obtain ⟨y, i⟩ := x
      rw [List.mem_zipIdx_iff_getElem?] at hx
      have hx' : l[i]? = some y := by
       rw [List.getElem?_take] at hx
       split at hx
       ·exact hx
       ·cases hx
      exact List.all_eq_true.1 hsh.1 (y, i) (by rw [List.mem_zipIdx_iff_getElem?]; exact hx')
     ·obtain ⟨h1, h2⟩ := List.mem_filter.1 hr
      have := List.all_eq_true.1 hsh.2 r h1
      rw [List.getElem?_take, if_pos (of_decide_eq_true h2)]
      exact this
    obtain ⟨st, vals, tr⟩ := B9i hr hshp
    have hlen : ((l.take pe).map GI.mini).length = pe := by rw [List.length_map, List.length_take]; omega
    have hpre : ∀ (p : Nat) m', p < pe -> ((A2a lt π).map Prod.snd)[p]? = some m' -> ((l.take pe).map GI.mini)[p]? = some m' := by
     intro p m' hp hm
     rw [List.map_take, List.getElem?_take, if_pos hp, he]
     exact hm
    have hstop := tr.stop
    rw [hlen] at hstop
    have hm0 : ((A2a lt π).map Prod.snd)[pe]? = some m := by rw [<- he, List.getElem?_map, h3]; rfl
    rw [List.getElem?_map] at hm0
    obtain ⟨x0, hx0, e0⟩ := A0i hm0
    subst e0
    refine B8n (st := st) (vals := vals) (pe := pe) (x0 := x0) hΦ.mix hΦ.sound hl hd hn hx0 (D1k hlate hx0 hk) (by rw [hk]; rfl)
     ⟨tr.start, fun p m' hp hm => tr.norm p m' (hpre p m' hp hm) (by omega), fun p p' m' hp hp' hR hm => tr.again p p' m' (List.mem_filter.2 ⟨hR, decide_eq_true hp'⟩) (hpre p m' hp hm)⟩ (by rw [hstop]; exact hw) ?_ h5
    intro o s' hop hH hnx hxs
    refine C9k hE hop ?_
    rw [hH, hnx, hxs, hstop, hk]
    exact hp
   ·cases hp
  ·cases hp
theorem A0k (hΦ : Ctx P G Φ) (hE : POK P G E) {a b : A0p} (hn : s.n = N) (h : A5f Φ E a s (A5p (fun s1 => MC P G B N b Q s1) Q)) : MC P G B N (.seq a b) Q s := by
 refine C8x ((A7l hΦ hE a h hn).mono fun e s1 q => ?_)
 cases e
 case normal => exact ⟨q.2 (fun _ h => (by cases h)), q.1⟩
 all_goals exact q.1
theorem A0l (hΦ : Ctx P G Φ) (hE : POK P G E) {a : A0p} (hn : s.n = N) (h : A5f Φ E a s Q) : MC P G B N a Q s := (A7l hΦ hE a h hn).mono fun _ _ q => q.1
abbrev ETbl := List (Nat × (List PV -> Heap -> Nat -> Option A2m))
def orE (tbl : ETbl) : Pans := fun f ps H nx => match look tbl f with
 | some g => g ps H nx
 | none => none
@[simp] theorem orE_cons (k f : Nat) (g : List PV -> Heap -> Nat -> Option A2m) (r : ETbl) (ps : List PV) (H : Heap) (nx : Nat) : orE ((k, g) :: r) f ps H nx = if k = f then g ps H nx else orE r f ps H nx := by
 unfold orE
 rw [look_cons]
 by_cases h : k = f
 ·rw [if_pos h, if_pos h]
 ·rw [if_neg h, if_neg h]
@[simp] theorem orE_nil (f : Nat) (ps : List PV) (H : Heap) (nx : Nat) : orE [] f ps H nx = none := rfl
def EOK (P : Program) (G : A0t) (f : FuncId) (e : List PV -> Heap -> Nat -> Option A2m) : Prop := ∀ ps H nx ch, e ps H nx = some ch -> A8z P G f ps H nx ch []
def A5z (P : Program) (G : A0t) (tbl : ETbl) : Prop := ∀ q ∈ tbl, EOK P G q.1 q.2
theorem A5z.nil : A5z P G [] := fun _ h => by cases h
theorem A5z.cons {f : Nat} {e : List PV -> Heap -> Nat -> Option A2m} {r : ETbl} (h : EOK P G f e) (hr : A5z P G r) : A5z P G ((f, e) :: r) := fun q hq => by
 rcases List.mem_cons.1 hq with rfl | hq
 ·exact h
 ·exact hr q hq
theorem A5z.ok {tbl : ETbl} (h : A5z P G tbl) : POK P G (orE tbl) := fun f ps H nx ch hr => by
 unfold orE at hr
 split at hr
 ·rename_i g hg
  exact h _ (A0f hg) ps H nx ch hr
 ·cases hr
abbrev Spec := List T -> List T -> Option (Except A2m (T × List T))
def D5m (sp : Spec) (cs ts : List T) : Option (T × List T) := match sp cs ts with
 | some (.ok x) => some x
 | _ => none
def outOf (ty : TypeId) : Except A2m (T × List T) -> Out
 | .ok (r, cs') => .ret (.t r) [(0, .cells ty (cs'.map .t))] 1
 | .error ch => .pan ch
def eObj (ty : TypeId) (sp : Spec) (ps : List PV) (H : Heap) (nx : Nat) : Option A2m :=
 match ps with
 | .ptr b 0 :: args => match look H b, allT args with
  | some (.cells ty' cs), some ts => match allT cs with
   | some cs' => if ty' = ty /\ b < nx then (match sp cs' ts with
    | some (.error ch) => some ch
    | _ => none) else none
   | none => none
  | _, _ => none
 | _ => none
def C4n (P : Program) (G : A0t) (f : FuncId) (ty : TypeId) (sp : Spec) : Prop := ∀ cs ts o, sp cs ts = some o -> B7f P G f (.ptr 0 0 :: ts.map .t) [(0, .cells ty (cs.map .t))] 1 (outOf ty o)
theorem C4n.hok {f : FuncId} {ty : TypeId} {sp : Spec} (h : C4n P G f ty sp) : HOK P G f (hObj ty (D5m sp)) := E3f fun cs ts r cs' hr => by
 unfold D5m at hr
 split at hr
 ·rename_i x hx
  injection hr with hr
  subst hr
  exact h cs ts _ hx
 ·cases hr
theorem A8z.weak {f : FuncId} {ps : List PV} {H H' : Heap} {nx : Nat} {ch : A2m} (h : A8z P G f ps H nx ch H') : A8z P G f ps H nx ch [] :=
 ⟨h.1, fun L w us h1 h2 h3 => (h.2 L w us h1 h2 h3).mono fun e w' ⟨L', e1, e2, e3, e4, e5⟩ =>
  ⟨L', e1, (B7g e2).1, e3, e4, ⟨e5.size, e5.same, e5.more, e5.new, fun _ ⟨_, _, hb, _⟩ => (by cases hb), e5.shape, e5.outer⟩⟩⟩
theorem C4n.eok {f : FuncId} {ty : TypeId} {sp : Spec} (h : C4n P G f ty sp) : EOK P G f (eObj ty sp) := fun ps H nx ch hr => by
 unfold eObj at hr
 split at hr
 ·rename_i b args
  split at hr
  ·rename_i ty' cs ts hl ha
   split at hr
   ·rename_i cs' hc
    split at hr
    ·rename_i hcond
     obtain ⟨rfl, hb⟩ := hcond
     split at hr
     ·rename_i ch' hsp
      injection hr with hr
      subst hr
      have := (h cs' ts _ hsp)
      have h1 : A8z P G f (.ptr 0 0 :: ts.map .t) [(0, .cells ty' (cs'.map .t))] 1 ch' [] := this
      have h2 := h1.lift1 (b := b) (NX := nx) (Hb := H) (by rw [hl, A4s hc]) hb
      rw [<- A4s ha] at h2
      exact h2.weak
     ·cases hr
    ·cases hr
   ·cases hr
  ·cases hr
 ·cases hr
theorem D9y {ty : TypeId} {sp : Spec} {b nx : Nat} {H : Heap} {cs ts : List T} {r : T} {cs' : List T} (hl : look H b = some (.cells ty (cs.map .t))) (hb : b < nx) (ho : sp cs ts = some (.ok (r, cs'))) :
  hObj ty (D5m sp) (.ptr b 0 :: ts.map .t) H nx = some (.t r, upd H b (.cells ty (cs'.map .t)), nx) := E3g (o := (r, cs')) hl hb (by unfold D5m; rw [ho])
theorem D9z {ty : TypeId} {sp : Spec} {b nx : Nat} {H : Heap} {cs ts : List T} {x : T × List T} (hl : look H b = some (.cells ty (cs.map .t))) (ho : sp cs ts = some (.ok x)) :
  eObj ty sp (.ptr b 0 :: ts.map .t) H nx = none := by
 simp only [eObj, hl, allT_map_t, ho]
 split <;> rfl
theorem E0a {ty : TypeId} {sp : Spec} {b nx : Nat} {H : Heap} {cs ts : List T} {ch : A2m} (hl : look H b = some (.cells ty (cs.map .t))) (hb : b < nx) (ho : sp cs ts = some (.error ch)) :
  eObj ty sp (.ptr b 0 :: ts.map .t) H nx = some ch := by
 simp only [eObj, hl, allT_map_t, hb, and_self, if_true, ho]
end
section
variable {P : Program} {G : A0t} {B : Nat} {Φ : A0u} {E : Pans} {env : List (Nat × PV)} {H : Heap} {nx n : Nat} {K : A0b -> Prop} {X : A2m -> Prop} {Q : Exit -> A0b -> Prop} {d : Option Nat} {k : MK} {xs : List Opd} {r : List Mini}
@[simp] theorem panK_hcall (f : Nat) (ps : List PV) : panK E H nx (.hcall f) ps = E f ps H nx := rfl
@[simp] theorem panK_pan (ps : List PV) : panK E H nx (.hx .pan) ps = B4c ps := rfl
@[simp] theorem chainOf_v (t : Nat) (x : Value) : B4c [.t (.ic t (.v x))] = some [{ v := .iface t x, recovered := false }] := rfl
@[simp] theorem exM_mki_t (t : Nat) (x : T) : exM (.mki t) [.t x] = some (.t (.ic t x)) := rfl
def A3w : MK -> Bool
 | .hcall _ => false
 | .hx .pan => false
 | _ => true
@[simp] theorem calmK_mv : A3w (.mv) = true := rfl
@[simp] theorem calmK_pick : A3w (.pick) = true := rfl
@[simp] theorem calmK_bin (isB : Bool) (op : BinOp) (nk : Option NK) : A3w (.bin isB op nk) = true := rfl
@[simp] theorem calmK_un (op : UnOp) : A3w (.un op) = true := rfl
@[simp] theorem calmK_conv (k : Option IntKind) : A3w (.conv k) = true := rfl
@[simp] theorem calmK_load (agg : Bool) (n : Nat) : A3w (.load agg n) = true := rfl
@[simp] theorem calmK_faddr (off : Nat) : A3w (.faddr off) = true := rfl
@[simp] theorem calmK_field (off : Nat) (agg : Bool) (n : Nat) : A3w (.field off agg n) = true := rfl
@[simp] theorem calmK_iaddr (z : Nat) : A3w (.iaddr z) = true := rfl
@[simp] theorem calmK_aaddr (len : Nat) (z : Nat) : A3w (.aaddr len z) = true := rfl
@[simp] theorem calmK_index : A3w (.index) = true := rfl
@[simp] theorem calmK_slstr (lo : Bool) (hi : Bool) : A3w (.slstr lo hi) = true := rfl
@[simp] theorem calmK_slice (z : Nat) (lo : Bool) (hi : Bool) : A3w (.slice z lo hi) = true := rfl
@[simp] theorem calmK_ext (i : Nat) : A3w (.ext i) = true := rfl
@[simp] theorem calmK_chk : A3w (.chk) = true := rfl
@[simp] theorem calmK_lenstr : A3w (.lenstr) = true := rfl
@[simp] theorem calmK_lensl : A3w (.lensl) = true := rfl
@[simp] theorem calmK_min : A3w (.min) = true := rfl
@[simp] theorem calmK_max : A3w (.max) = true := rfl
@[simp] theorem calmK_store (n : Nat) : A3w (.store n) = true := rfl
@[simp] theorem calmK_make (e : Nat) (n : Nat) (b : Nat) (zc : List Value) : A3w (.make e n b zc) = true := rfl
@[simp] theorem calmK_bslice (e : Nat) (n : Nat) (zc : List Value) (len : Nat) (idx : List Nat) : A3w (.bslice e n zc len idx) = true := rfl
@[simp] theorem calmK_build (pl : List (Nat × Nat)) (zc : List Value) (idx : List Nat) : A3w (.build pl zc idx) = true := rfl
@[simp] theorem calmK_barr (n : Nat) (zc : List Value) (idx : List Nat) : A3w (.barr n zc idx) = true := rfl
@[simp] theorem calmK_box (t : Nat) : A3w (.box t) = true := rfl
@[simp] theorem calmK_alloc (t : Nat) (zc : List Value) : A3w (.alloc t zc) = true := rfl
@[simp] theorem calmK_app (e : Nat) (n : Nat) (b : Nat) : A3w (.app e n b) = true := rfl
@[simp] theorem calmK_call (f : Nat) : A3w (.call f) = true := rfl
@[simp] theorem calmK_callv : A3w (.callv) = true := rfl
@[simp] theorem calmK_tslice (e : Nat) (n : Nat) (zc : List Value) (len : Nat) (idx : List Nat) : A3w (.tslice e n zc len idx) = true := rfl
@[simp] theorem calmK_bad : A3w (.bad) = true := rfl
@[simp] theorem calmK_ex (e : EK) : A3w (.ex e) = true := rfl
theorem C4o {ps : List PV} (h : A3w k = true) : panK E H nx k ps = none := by
 cases k
 case hx h2 => cases h2 <;> first | (cases h; done) | rfl
 all_goals first | (cases h; done) | rfl
@[simp] theorem runsLE_nil {s : A0b} : A2t Φ E [] s K X = K s := rfl
@[simp] theorem runsLE_calm (hk : A3w k = true) : A2t Φ E (⟨d, k, xs, none⟩ :: r) ⟨env, H, nx, n⟩ K X = A1x (A0d Φ H nx k (xs.map (·.ev env))) fun q => A2t Φ E r (A0b.set ⟨env, H, nx, n⟩ d q) K X := by
 simp only [A2t, Mini.wants, onWants_true, C4o hk, onPan_none]
@[simp] theorem runsLE_hcall {f : Nat} : A2t Φ E (⟨d, .hcall f, xs, none⟩ :: r) ⟨env, H, nx, n⟩ K X = C7b (E f (xs.map (·.ev env)) H nx) X (A1x (A0d Φ H nx (.hcall f) (xs.map (·.ev env))) fun q => A2t Φ E r (A0b.set ⟨env, H, nx, n⟩ d q) K X) := rfl
@[simp] theorem runsLE_pan : A2t Φ E (⟨d, .hx .pan, xs, none⟩ :: r) ⟨env, H, nx, n⟩ K X = C7b (B4c (xs.map (·.ev env))) X (A1x (A0d Φ H nx (.hx .pan) (xs.map (·.ev env))) fun q => A2t Φ E r (A0b.set ⟨env, H, nx, n⟩ d q) K X) := rfl
@[simp] theorem runsLE_yes {g : Nat} {want : Bool} (h : look env g = some (.t (.v (.bool want)))) (hk : A3w k = true) :
  A2t Φ E (⟨d, k, xs, some (g, want)⟩ :: r) ⟨env, H, nx, n⟩ K X = A1x (A0d Φ H nx k (xs.map (·.ev env))) fun q => A2t Φ E r (A0b.set ⟨env, H, nx, n⟩ d q) K X := by
 simp only [A2t, Mini.wants, h, beq_self_eq_true, onWants_true, C4o hk, onPan_none]
theorem C4p {g : Nat} {want b : Bool} (h : look env g = some (.t (.v (.bool b)))) (hb : (b == want) = false) :
  A2t Φ E (⟨d, k, xs, some (g, want)⟩ :: r) ⟨env, H, nx, n⟩ K X = A2t Φ E r (A0b.set ⟨env, H, nx, n⟩ d (.t (.v undef), H, nx)) K X := by
 simp only [A2t, Mini.wants, h, hb, onWants_false]
@[simp] theorem runsLE_no_t {g : Nat} (h : look env g = some (.t (.v (.bool false)))) :
  A2t Φ E (⟨d, k, xs, some (g, true)⟩ :: r) ⟨env, H, nx, n⟩ K X = A2t Φ E r (A0b.set ⟨env, H, nx, n⟩ d (.t (.v undef), H, nx)) K X := C4p h rfl
@[simp] theorem runsLE_no_f {g : Nat} (h : look env g = some (.t (.v (.bool true)))) :
  A2t Φ E (⟨d, k, xs, some (g, false)⟩ :: r) ⟨env, H, nx, n⟩ K X = A2t Φ E r (A0b.set ⟨env, H, nx, n⟩ d (.t (.v undef), H, nx)) K X := C4p h rfl
@[simp] theorem runsLE_no_u {g : Nat} {want : Bool} (h : look env g = some (.t (.v undef))) :
  A2t Φ E (⟨d, k, xs, some (g, want)⟩ :: r) ⟨env, H, nx, n⟩ K X = A2t Φ E r (A0b.set ⟨env, H, nx, n⟩ d (.t (.v undef), H, nx)) K X := by
 simp only [A2t, Mini.wants, h, undef, onWants_false]
@[simp] theorem runsE_skip {s : A0b} : A5f Φ E .skip s Q = Q .normal s := rfl
@[simp] theorem runsE_ops {l : List Mini} : A5f Φ E (.ops l) ⟨env, H, nx, n⟩ Q = A2t Φ E l ⟨env, H, nx, n⟩ (Q .normal) (anyP Q) := rfl
@[simp] theorem runsE_draw {l : List Mini} : A5f Φ E (.draw l) ⟨env, H, nx, n⟩ Q = A4y Φ l ⟨env, H, nx, n⟩ (Q .normal) := rfl
@[simp] theorem runsE_drawG {κ : Nat} {l : List GI} : A5f Φ E (.drawG κ l) ⟨env, H, nx, n⟩ Q = A7t Φ κ 0 0 [] l ⟨env, H, nx, n⟩ (Q .normal) := rfl
@[simp] theorem runsE_seq {a b : A0p} : A5f Φ E (.seq a b) ⟨env, H, nx, n⟩ Q = A5f Φ E a ⟨env, H, nx, n⟩ (A5p (fun s1 => A5f Φ E b s1 Q) Q) := rfl
@[simp] theorem runsE_true {c : Opd} {a b : A0p} (h : c.ev env = .t (.v (.bool true))) : A5f Φ E (.cond c a b) ⟨env, H, nx, n⟩ Q = A5f Φ E a ⟨env, H, nx, n⟩ Q := by simp only [A5f, h, onBool_true]
@[simp] theorem runsE_false {c : Opd} {a b : A0p} (h : c.ev env = .t (.v (.bool false))) : A5f Φ E (.cond c a b) ⟨env, H, nx, n⟩ Q = A5f Φ E b ⟨env, H, nx, n⟩ Q := by simp only [A5f, h, onBool_false]
@[simp] theorem runsE_block {i : Nat} {a : A0p} : A5f Φ E (.block i a) ⟨env, H, nx, n⟩ Q = A5f Φ E a ⟨env, H, nx, n⟩ (A6a i Q) := rfl
@[simp] theorem runsE_exit {i : Nat} {s : A0b} : A5f Φ E (.exit i) s Q = Q (.exit i) s := rfl
@[simp] theorem runsE_scope {a : A0p} : A5f Φ E (.scope a) ⟨env, H, nx, n⟩ Q = A5f Φ E a ⟨env, H, nx, n⟩ (B1z Q) := rfl
@[simp] theorem runsE_ret {s : A0b} : A5f Φ E .ret s Q = Q .ret s := rfl
@[simp] theorem anyP_normal (K : A0b -> Prop) (ch : A2m) : anyP (A5p K Q) ch = anyP Q ch := rfl
@[simp] theorem anyP_block (i : Nat) (ch : A2m) : anyP (A6a i Q) ch = anyP Q ch := rfl
@[simp] theorem anyP_scope (ch : A2m) : anyP (B1z Q) ch = anyP Q ch := rfl
@[simp] theorem anyP_while {α : Type} (S : α -> A0b) (Ok : α -> Prop) (ch : A2m) : anyP (B3u P G B S Ok Q) ch = anyP Q ch := rfl
@[simp] theorem anyP_round (S : A0b) (ch : A2m) : anyP (B6l P G B S Q) ch = anyP Q ch := rfl
@[simp] theorem anyP_last (ch : A2m) : anyP (C3k Q) ch = anyP Q ch := rfl
@[simp] theorem anyP_ends (vs : List RV) (o : Out) (ch : A2m) : anyP (D2g P G B vs o) ch = (o = .pan ch) := by
 refine propext ⟨fun h => ?_, fun h s => ?_⟩
 ·have := h ⟨[], [], 0, 0⟩
  cases o with
  | ret r H nx =>
   obtain ⟨he, _⟩ := (show B2b P G B vs (fun r0 H0 nx0 => r0 = r /\ H0 = H /\ nx0 = nx) (.panic ch) ⟨[], [], 0, 0⟩ from this)
   rcases he with he | he <;> cases he
  | pan c =>
   have e : Exit.panic ch = Exit.panic c := this
   injection e with e
   rw [e]
 ·subst h; exact rfl
theorem C4q {vs : List RV} {r : PV} {H' : Heap} {nx' : Nat} {e : Exit} {s : A0b} (h : B2b P G B vs (fun r0 H0 nx0 => r0 = r /\ H0 = H' /\ nx0 = nx') e s) : D2g P G B vs (.ret r H' nx') e s := h
theorem B2v {vs : List RV} {r : PV} {H' : Heap} {nx' : Nat} {e : Exit} {s s2 : A0b} {rs : List PV} (he : e = .normal \/ e = .ret) (hs : Sub P G B s s2) (h1 : resM s2 vs = some rs) (h2 : oneOf rs = r) (h3 : s2.H = H') (h4 : s2.nx = nx') : D2g P G B vs (.ret r H' nx') e s :=
 ⟨he, s2, rs, hs, h1, h2, h3, h4⟩
end
end Go.Abs
