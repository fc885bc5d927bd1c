/-
 Auxiliary facts. No statement of the program stands here.
-/
import Derived.Test.YtjkkgbdoeaihmaaGreatDoorUBQ22
import Derived.Test.YtjkkgbdoeaihmaaGreatDoorUBQ16
namespace Go.Abs
set_option linter.unusedSimpArgs false
set_option linter.unusedVariables false
open Go
section
variable {P : Program} {G : Globs} {B N : Nat} {Φ : Oracle} {E : Pans} {Q : Exit → AState → Prop} {s : AState}
def panM (E : Pans) (s : AState) (m : Mini) : Option Chain :=
 match m.k with
 | .hcall f => match m.wants s.env with
  | some true => E f (m.xs.map (·.ev s.env)) s.H s.nx
  | _ => none
 | _ => none
def runsGE (Φ : Oracle) (E : Pans) : Nat → Pend → List GI → AState → (AState → Prop) → (Chain → Prop) → Prop
 | _, _, [], s, K, _ => K s
 | n, pd, .o m kp ag :: r, s, K, X => onPan (panM E s m) X (ifSome (valD Φ s m) fun q => agains Φ pd q.2.1 q.2.2 ag (runsGE Φ E (n + 1) (keepG kp n m s q.1 pd) r (s.set m.dst q) K X))
 | _, _, .g _ _ :: _, _, _, _ => False
theorem runsGE_split : ∀ (l : List GI) {n : Nat} {pd : Pend} {s : AState} {K : AState → Prop} {X : Chain → Prop}, runsGE Φ E n pd l s K X →
  runsG Φ 0 n 0 pd l s K ∨ ∃ (pe : Nat) (m : Mini) (kp : Bool) (ag : List Nat) (ch : Chain), l[pe]? = some (.o m kp ag) ∧ runsG Φ 0 n 0 pd (l.take pe) s (fun s1 => panM E s1 m = some ch) ∧ X ch
 | [], n, pd, s, K, X, h => .inl h
 | .g _ _ :: _, n, pd, s, K, X, h => h.elim
 | .o m kp ag :: r, n, pd, s, K, X, h => by
  simp only [runsGE] at h
  cases hp : panM E s m with
  | some ch =>
   rw [hp] at h
   exact .inr ⟨0, m, kp, ag, ch, rfl, hp, h⟩
  | none =>
   rw [hp, onPan_none] at h
   obtain ⟨q, hv, hk⟩ := ifSome_elim h
   obtain ⟨h1, h2⟩ := agains_run hk
   have back : ∀ C : Prop, C → agains Φ pd q.2.1 q.2.2 ag C := by
    intro C hC
    have : ∀ ks : List Nat, agnP Φ pd q.2.1 q.2.2 ks → agains Φ pd q.2.1 q.2.2 ks C := by
     intro ks
     induction ks with
     | nil => intro _; exact hC
     | cons i r ih =>
      intro hh
      obtain ⟨x, hx, he⟩ := hh i (by simp)
      show ifSome (look pd i) _
      rw [hx]
      exact ⟨he, ih fun j hj => hh j (by simp [hj])⟩
    exact this ag h1
   rcases runsGE_split r h2 with h3 | ⟨pe, m', kp', ag', ch, h3, h4, h5⟩
   ·left
    show ifSome (valD Φ s m) _
    rw [hv]
    exact back _ h3
   ·right
    refine ⟨pe + 1, m', kp', ag', ch, by simpa using h3, ?_, h5⟩
    rw [List.take_succ_cons]
    show ifSome (valD Φ s m) _
    rw [hv]
    exact back _ h4
theorem mc_drawGE (hΦ : Ctx P G Φ) (hE : POK P G E) {l : List GI} (h : runsGE Φ E 0 [] l s (Q .normal) (anyP Q)) : MC P G B N (.drawG 0 l) Q s := by
 rcases runsGE_split l h with h1 | ⟨pe, m, kp, ag, ch, h3, h4, h5⟩
 ·exact mc_runs hΦ h1
 ·intro c hc hn
  obtain ⟨id, ops, lt, π, pa, R, rfl, hl, hd, hsh, he, hlate⟩ := comp_cases hc
  obtain ⟨s1, hr, hp⟩ := runsG_run _ h4
  unfold panM at hp
  split at hp
  ·rename_i f hk
   split at hp
   ·rename_i hw
    -- the prefix
    have hple : pe < l.length := (List.getElem?_eq_some_iff.1 h3).1
    have hshp : shapeG pa 0 (R.filter fun r => decide (r.2 < pe)) (l.take pe) = true := by
     unfold shapeG at hsh ⊢
     rw [Bool.and_eq_true] at hsh ⊢
     refine ⟨List.all_eq_true.2 fun x hx => ?_, List.all_eq_true.2 fun r hr => ?_⟩
     ·obtain ⟨y, i⟩ := x
      rw [List.mem_zipIdx_iff_getElem?] at hx
      have hx' : l[i]? = some y := by
       rw [List.getElem?_take] at hx
       split at hx
       ·exact hx
       ·cases hx
      exact List.all_eq_true.1 hsh.1 (y, i) (by rw [List.mem_zipIdx_iff_getElem?]; exact hx')
     ·obtain ⟨h1, h2⟩ := List.mem_filter.1 hr
      have := List.all_eq_true.1 hsh.2 r h1
      rw [List.getElem?_take, if_pos (of_decide_eq_true h2)]
      exact this
    obtain ⟨st, vals, tr⟩ := runG_trace hr hshp
    have hlen : ((l.take pe).map GI.mini).length = pe := by rw [List.length_map, List.length_take]; omega
    have hpre : ∀ (p : Nat) m', p < pe → ((ordered lt π).map Prod.snd)[p]? = some m' → ((l.take pe).map GI.mini)[p]? = some m' := by
     intro p m' hp hm
     rw [List.map_take, List.getElem?_take, if_pos hp, he]
     exact hm
    have hstop := tr.stop
    rw [hlen] at hstop
    have hm0 : ((ordered lt π).map Prod.snd)[pe]? = some m := by rw [← he, List.getElem?_map, h3]; rfl
    rw [List.getElem?_map] at hm0
    obtain ⟨x0, hx0, e0⟩ := map_opt hm0
    subst e0
    refine acode_draw_pan (st := st) (vals := vals) (pe := pe) (x0 := x0) hΦ.mix hΦ.sound hl hd hn hx0 (lateM_spec hlate hx0 hk) (by rw [hk]; rfl)
     ⟨tr.start, fun p m' hp hm => tr.norm p m' (hpre p m' hp hm) (by omega), fun p p' m' hp hp' hR hm => tr.again p p' m' (List.mem_filter.2 ⟨hR, decide_eq_true hp'⟩) (hpre p m' hp hm)⟩ (by rw [hstop]; exact hw) ?_ h5
    intro o s' hop hH hnx hxs
    refine opK_apan hE hop ?_
    rw [hH, hnx, hxs, hstop, hk]
    exact hp
   ·cases hp
  ·cases hp
theorem mc_seq_runsE (hΦ : Ctx P G Φ) (hE : POK P G E) {a b : MCode} (hn : s.n = N) (h : runsE Φ E a s (onNormal (fun s1 => MC P G B N b Q s1) Q)) : MC P G B N (.seq a b) Q s := by
 refine mc_seq ((mc_runsE hΦ hE a h hn).mono fun e s1 q => ?_)
 cases e
 case normal => exact ⟨q.2 (fun _ h => (by cases h)), q.1⟩
 all_goals exact q.1
theorem mc_runsE' (hΦ : Ctx P G Φ) (hE : POK P G E) {a : MCode} (hn : s.n = N) (h : runsE Φ E a s Q) : MC P G B N a Q s := (mc_runsE hΦ hE a h hn).mono fun _ _ q => q.1
abbrev ETbl := List (Nat × (List PV → Heap → Nat → Option Chain))
def orE (tbl : ETbl) : Pans := fun f ps H nx => match look tbl f with
 | some g => g ps H nx
 | none => none
@[simp] theorem orE_cons (k f : Nat) (g : List PV → Heap → Nat → Option Chain) (r : ETbl) (ps : List PV) (H : Heap) (nx : Nat) : orE ((k, g) :: r) f ps H nx = if k = f then g ps H nx else orE r f ps H nx := by
 unfold orE
 rw [look_cons]
 by_cases h : k = f
 ·rw [if_pos h, if_pos h]
 ·rw [if_neg h, if_neg h]
@[simp] theorem orE_nil (f : Nat) (ps : List PV) (H : Heap) (nx : Nat) : orE [] f ps H nx = none := rfl
def EOK (P : Program) (G : Globs) (f : FuncId) (e : List PV → Heap → Nat → Option Chain) : Prop := ∀ ps H nx ch, e ps H nx = some ch → CallE P G f ps H nx ch []
def ETblOK (P : Program) (G : Globs) (tbl : ETbl) : Prop := ∀ q ∈ tbl, EOK P G q.1 q.2
theorem ETblOK.nil : ETblOK P G [] := fun _ h => by cases h
theorem ETblOK.cons {f : Nat} {e : List PV → Heap → Nat → Option Chain} {r : ETbl} (h : EOK P G f e) (hr : ETblOK P G r) : ETblOK P G ((f, e) :: r) := fun q hq => by
 rcases List.mem_cons.1 hq with rfl | hq
 ·exact h
 ·exact hr q hq
theorem ETblOK.ok {tbl : ETbl} (h : ETblOK P G tbl) : POK P G (orE tbl) := fun f ps H nx ch hr => by
 unfold orE at hr
 split at hr
 ·rename_i g hg
  exact h _ (mem_of_look hg) ps H nx ch hr
 ·cases hr
abbrev Spec := List T → List T → Option (Except Chain (T × List T))
def specR (sp : Spec) (cs ts : List T) : Option (T × List T) := match sp cs ts with
 | some (.ok x) => some x
 | _ => none
def outOf (ty : TypeId) : Except Chain (T × List T) → Out
 | .ok (r, cs') => .ret (.t r) [(0, .cells ty (cs'.map .t))] 1
 | .error ch => .pan ch
def eObj (ty : TypeId) (sp : Spec) (ps : List PV) (H : Heap) (nx : Nat) : Option Chain :=
 match ps with
 | .ptr b 0 :: args => match look H b, allT args with
  | some (.cells ty' cs), some ts => match allT cs with
   | some cs' => if ty' = ty ∧ b < nx then (match sp cs' ts with
    | some (.error ch) => some ch
    | _ => none) else none
   | none => none
  | _, _ => none
 | _ => none
def SpecOK (P : Program) (G : Globs) (f : FuncId) (ty : TypeId) (sp : Spec) : Prop := ∀ cs ts o, sp cs ts = some o → CallO P G f (.ptr 0 0 :: ts.map .t) [(0, .cells ty (cs.map .t))] 1 (outOf ty o)
theorem SpecOK.hok {f : FuncId} {ty : TypeId} {sp : Spec} (h : SpecOK P G f ty sp) : HOK P G f (hObj ty (specR sp)) := hObj_ok fun cs ts r cs' hr => by
 unfold specR at hr
 split at hr
 ·rename_i x hx
  injection hr with hr
  subst hr
  exact h cs ts _ hx
 ·cases hr
theorem CallE.weak {f : FuncId} {ps : List PV} {H H' : Heap} {nx : Nat} {ch : Chain} (h : CallE P G f ps H nx ch H') : CallE P G f ps H nx ch [] :=
 ⟨h.1, fun L w us h1 h2 h3 => (h.2 L w us h1 h2 h3).mono fun e w' ⟨L', e1, e2, e3, e4, e5⟩ =>
  ⟨L', e1, (rows_none e2).1, e3, e4, ⟨e5.size, e5.same, e5.more, e5.new, fun _ ⟨_, _, hb, _⟩ => (by cases hb), e5.shape, e5.outer⟩⟩⟩
theorem SpecOK.eok {f : FuncId} {ty : TypeId} {sp : Spec} (h : SpecOK P G f ty sp) : EOK P G f (eObj ty sp) := fun ps H nx ch hr => by
 unfold eObj at hr
 split at hr
 ·rename_i b args
  split at hr
  ·rename_i ty' cs ts hl ha
   split at hr
   ·rename_i cs' hc
    split at hr
    ·rename_i hcond
     obtain ⟨rfl, hb⟩ := hcond
     split at hr
     ·rename_i ch' hsp
      injection hr with hr
      subst hr
      have := (h cs' ts _ hsp)
      have h1 : CallE P G f (.ptr 0 0 :: ts.map .t) [(0, .cells ty' (cs'.map .t))] 1 ch' [] := this
      have h2 := h1.lift1 (b := b) (NX := nx) (Hb := H) (by rw [hl, allT_map hc]) hb
      rw [← allT_map ha] at h2
      exact h2.weak
     ·cases hr
    ·cases hr
   ·cases hr
  ·cases hr
 ·cases hr
theorem hObj_ret {ty : TypeId} {sp : Spec} {b nx : Nat} {H : Heap} {cs ts : List T} {r : T} {cs' : List T} (hl : look H b = some (.cells ty (cs.map .t))) (hb : b < nx) (ho : sp cs ts = some (.ok (r, cs'))) :
  hObj ty (specR sp) (.ptr b 0 :: ts.map .t) H nx = some (.t r, upd H b (.cells ty (cs'.map .t)), nx) := hObj_eq (o := (r, cs')) hl hb (by unfold specR; rw [ho])
theorem eObj_ret {ty : TypeId} {sp : Spec} {b nx : Nat} {H : Heap} {cs ts : List T} {x : T × List T} (hl : look H b = some (.cells ty (cs.map .t))) (ho : sp cs ts = some (.ok x)) :
  eObj ty sp (.ptr b 0 :: ts.map .t) H nx = none := by
 simp only [eObj, hl, allT_map_t, ho]
 split <;> rfl
theorem eObj_pan {ty : TypeId} {sp : Spec} {b nx : Nat} {H : Heap} {cs ts : List T} {ch : Chain} (hl : look H b = some (.cells ty (cs.map .t))) (hb : b < nx) (ho : sp cs ts = some (.error ch)) :
  eObj ty sp (.ptr b 0 :: ts.map .t) H nx = some ch := by
 simp only [eObj, hl, allT_map_t, hb, and_self, if_true, ho]
end
section
variable {P : Program} {G : Globs} {B : Nat} {Φ : Oracle} {E : Pans} {env : List (Nat × PV)} {H : Heap} {nx n : Nat} {K : AState → Prop} {X : Chain → Prop} {Q : Exit → AState → Prop} {d : Option Nat} {k : MK} {xs : List Opd} {r : List Mini}
@[simp] theorem panK_hcall (f : Nat) (ps : List PV) : panK E H nx (.hcall f) ps = E f ps H nx := rfl
@[simp] theorem panK_pan (ps : List PV) : panK E H nx (.hx .pan) ps = chainOf ps := rfl
@[simp] theorem chainOf_v (t : Nat) (x : Value) : chainOf [.t (.ic t (.v x))] = some [{ v := .iface t x, recovered := false }] := rfl
@[simp] theorem exM_mki_t (t : Nat) (x : T) : exM (.mki t) [.t x] = some (.t (.ic t x)) := rfl
def calmK : MK → Bool
 | .hcall _ => false
 | .hx .pan => false
 | _ => true
@[simp] theorem calmK_mv : calmK (.mv) = true := rfl
@[simp] theorem calmK_pick : calmK (.pick) = true := rfl
@[simp] theorem calmK_bin (isB : Bool) (op : BinOp) (nk : Option NK) : calmK (.bin isB op nk) = true := rfl
@[simp] theorem calmK_un (op : UnOp) : calmK (.un op) = true := rfl
@[simp] theorem calmK_conv (k : Option IntKind) : calmK (.conv k) = true := rfl
@[simp] theorem calmK_load (agg : Bool) (n : Nat) : calmK (.load agg n) = true := rfl
@[simp] theorem calmK_faddr (off : Nat) : calmK (.faddr off) = true := rfl
@[simp] theorem calmK_field (off : Nat) (agg : Bool) (n : Nat) : calmK (.field off agg n) = true := rfl
@[simp] theorem calmK_iaddr (z : Nat) : calmK (.iaddr z) = true := rfl
@[simp] theorem calmK_aaddr (len : Nat) (z : Nat) : calmK (.aaddr len z) = true := rfl
@[simp] theorem calmK_index : calmK (.index) = true := rfl
@[simp] theorem calmK_slstr (lo : Bool) (hi : Bool) : calmK (.slstr lo hi) = true := rfl
@[simp] theorem calmK_slice (z : Nat) (lo : Bool) (hi : Bool) : calmK (.slice z lo hi) = true := rfl
@[simp] theorem calmK_ext (i : Nat) : calmK (.ext i) = true := rfl
@[simp] theorem calmK_chk : calmK (.chk) = true := rfl
@[simp] theorem calmK_lenstr : calmK (.lenstr) = true := rfl
@[simp] theorem calmK_lensl : calmK (.lensl) = true := rfl
@[simp] theorem calmK_min : calmK (.min) = true := rfl
@[simp] theorem calmK_max : calmK (.max) = true := rfl
@[simp] theorem calmK_store (n : Nat) : calmK (.store n) = true := rfl
@[simp] theorem calmK_make (e : Nat) (n : Nat) (b : Nat) (zc : List Value) : calmK (.make e n b zc) = true := rfl
@[simp] theorem calmK_bslice (e : Nat) (n : Nat) (zc : List Value) (len : Nat) (idx : List Nat) : calmK (.bslice e n zc len idx) = true := rfl
@[simp] theorem calmK_build (pl : List (Nat × Nat)) (zc : List Value) (idx : List Nat) : calmK (.build pl zc idx) = true := rfl
@[simp] theorem calmK_barr (n : Nat) (zc : List Value) (idx : List Nat) : calmK (.barr n zc idx) = true := rfl
@[simp] theorem calmK_box (t : Nat) : calmK (.box t) = true := rfl
@[simp] theorem calmK_alloc (t : Nat) (zc : List Value) : calmK (.alloc t zc) = true := rfl
@[simp] theorem calmK_app (e : Nat) (n : Nat) (b : Nat) : calmK (.app e n b) = true := rfl
@[simp] theorem calmK_call (f : Nat) : calmK (.call f) = true := rfl
@[simp] theorem calmK_callv : calmK (.callv) = true := rfl
@[simp] theorem calmK_tslice (e : Nat) (n : Nat) (zc : List Value) (len : Nat) (idx : List Nat) : calmK (.tslice e n zc len idx) = true := rfl
@[simp] theorem calmK_bad : calmK (.bad) = true := rfl
@[simp] theorem calmK_ex (e : EK) : calmK (.ex e) = true := rfl
theorem panK_calm {ps : List PV} (h : calmK k = true) : panK E H nx k ps = none := by
 cases k
 case hx h2 => cases h2 <;> first | (cases h; done) | rfl
 all_goals first | (cases h; done) | rfl
@[simp] theorem runsLE_nil {s : AState} : runsLE Φ E [] s K X = K s := rfl
@[simp] theorem runsLE_calm (hk : calmK k = true) : runsLE Φ E (⟨d, k, xs, none⟩ :: r) ⟨env, H, nx, n⟩ K X = ifSome (evalK Φ H nx k (xs.map (·.ev env))) fun q => runsLE Φ E r (AState.set ⟨env, H, nx, n⟩ d q) K X := by
 simp only [runsLE, Mini.wants, onWants_true, panK_calm hk, onPan_none]
@[simp] theorem runsLE_hcall {f : Nat} : runsLE Φ E (⟨d, .hcall f, xs, none⟩ :: r) ⟨env, H, nx, n⟩ K X = onPan (E f (xs.map (·.ev env)) H nx) X (ifSome (evalK Φ H nx (.hcall f) (xs.map (·.ev env))) fun q => runsLE Φ E r (AState.set ⟨env, H, nx, n⟩ d q) K X) := rfl
@[simp] theorem runsLE_pan : runsLE Φ E (⟨d, .hx .pan, xs, none⟩ :: r) ⟨env, H, nx, n⟩ K X = onPan (chainOf (xs.map (·.ev env))) X (ifSome (evalK Φ H nx (.hx .pan) (xs.map (·.ev env))) fun q => runsLE Φ E r (AState.set ⟨env, H, nx, n⟩ d q) K X) := rfl
@[simp] theorem runsLE_yes {g : Nat} {want : Bool} (h : look env g = some (.t (.v (.bool want)))) (hk : calmK k = true) :
  runsLE Φ E (⟨d, k, xs, some (g, want)⟩ :: r) ⟨env, H, nx, n⟩ K X = ifSome (evalK Φ H nx k (xs.map (·.ev env))) fun q => runsLE Φ E r (AState.set ⟨env, H, nx, n⟩ d q) K X := by
 simp only [runsLE, Mini.wants, h, beq_self_eq_true, onWants_true, panK_calm hk, onPan_none]
theorem runsLE_no {g : Nat} {want b : Bool} (h : look env g = some (.t (.v (.bool b)))) (hb : (b == want) = false) :
  runsLE Φ E (⟨d, k, xs, some (g, want)⟩ :: r) ⟨env, H, nx, n⟩ K X = runsLE Φ E r (AState.set ⟨env, H, nx, n⟩ d (.t (.v undef), H, nx)) K X := by
 simp only [runsLE, Mini.wants, h, hb, onWants_false]
@[simp] theorem runsLE_no_t {g : Nat} (h : look env g = some (.t (.v (.bool false)))) :
  runsLE Φ E (⟨d, k, xs, some (g, true)⟩ :: r) ⟨env, H, nx, n⟩ K X = runsLE Φ E r (AState.set ⟨env, H, nx, n⟩ d (.t (.v undef), H, nx)) K X := runsLE_no h rfl
@[simp] theorem runsLE_no_f {g : Nat} (h : look env g = some (.t (.v (.bool true)))) :
  runsLE Φ E (⟨d, k, xs, some (g, false)⟩ :: r) ⟨env, H, nx, n⟩ K X = runsLE Φ E r (AState.set ⟨env, H, nx, n⟩ d (.t (.v undef), H, nx)) K X := runsLE_no h rfl
@[simp] theorem runsLE_no_u {g : Nat} {want : Bool} (h : look env g = some (.t (.v undef))) :
  runsLE Φ E (⟨d, k, xs, some (g, want)⟩ :: r) ⟨env, H, nx, n⟩ K X = runsLE Φ E r (AState.set ⟨env, H, nx, n⟩ d (.t (.v undef), H, nx)) K X := by
 simp only [runsLE, Mini.wants, h, undef, onWants_false]
@[simp] theorem runsE_skip {s : AState} : runsE Φ E .skip s Q = Q .normal s := rfl
@[simp] theorem runsE_ops {l : List Mini} : runsE Φ E (.ops l) ⟨env, H, nx, n⟩ Q = runsLE Φ E l ⟨env, H, nx, n⟩ (Q .normal) (anyP Q) := rfl
@[simp] theorem runsE_draw {l : List Mini} : runsE Φ E (.draw l) ⟨env, H, nx, n⟩ Q = runsD Φ l ⟨env, H, nx, n⟩ (Q .normal) := rfl
@[simp] theorem runsE_drawG {κ : Nat} {l : List GI} : runsE Φ E (.drawG κ l) ⟨env, H, nx, n⟩ Q = runsG Φ κ 0 0 [] l ⟨env, H, nx, n⟩ (Q .normal) := rfl
@[simp] theorem runsE_seq {a b : MCode} : runsE Φ E (.seq a b) ⟨env, H, nx, n⟩ Q = runsE Φ E a ⟨env, H, nx, n⟩ (onNormal (fun s1 => runsE Φ E b s1 Q) Q) := rfl
@[simp] theorem runsE_true {c : Opd} {a b : MCode} (h : c.ev env = .t (.v (.bool true))) : runsE Φ E (.cond c a b) ⟨env, H, nx, n⟩ Q = runsE Φ E a ⟨env, H, nx, n⟩ Q := by simp only [runsE, h, onBool_true]
@[simp] theorem runsE_false {c : Opd} {a b : MCode} (h : c.ev env = .t (.v (.bool false))) : runsE Φ E (.cond c a b) ⟨env, H, nx, n⟩ Q = runsE Φ E b ⟨env, H, nx, n⟩ Q := by simp only [runsE, h, onBool_false]
@[simp] theorem runsE_block {i : Nat} {a : MCode} : runsE Φ E (.block i a) ⟨env, H, nx, n⟩ Q = runsE Φ E a ⟨env, H, nx, n⟩ (InBlock i Q) := rfl
@[simp] theorem runsE_exit {i : Nat} {s : AState} : runsE Φ E (.exit i) s Q = Q (.exit i) s := rfl
@[simp] theorem runsE_scope {a : MCode} : runsE Φ E (.scope a) ⟨env, H, nx, n⟩ Q = runsE Φ E a ⟨env, H, nx, n⟩ (NoGoto Q) := rfl
@[simp] theorem runsE_ret {s : AState} : runsE Φ E .ret s Q = Q .ret s := rfl
@[simp] theorem anyP_normal (K : AState → Prop) (ch : Chain) : anyP (onNormal K Q) ch = anyP Q ch := rfl
@[simp] theorem anyP_block (i : Nat) (ch : Chain) : anyP (InBlock i Q) ch = anyP Q ch := rfl
@[simp] theorem anyP_scope (ch : Chain) : anyP (NoGoto Q) ch = anyP Q ch := rfl
@[simp] theorem anyP_while {α : Type} (S : α → AState) (Ok : α → Prop) (ch : Chain) : anyP (WhileTo P G B S Ok Q) ch = anyP Q ch := rfl
@[simp] theorem anyP_round (S : AState) (ch : Chain) : anyP (RoundTo P G B S Q) ch = anyP Q ch := rfl
@[simp] theorem anyP_last (ch : Chain) : anyP (LastTo Q) ch = anyP Q ch := rfl
@[simp] theorem anyP_ends (vs : List RV) (o : Out) (ch : Chain) : anyP (EndsO P G B vs o) ch = (o = .pan ch) := by
 refine propext ⟨fun h => ?_, fun h s => ?_⟩
 ·have := h ⟨[], [], 0, 0⟩
  cases o with
  | ret r H nx =>
   obtain ⟨he, _⟩ := (show EndsP P G B vs (fun r0 H0 nx0 => r0 = r ∧ H0 = H ∧ nx0 = nx) (.panic ch) ⟨[], [], 0, 0⟩ from this)
   rcases he with he | he <;> cases he
  | pan c =>
   have e : Exit.panic ch = Exit.panic c := this
   injection e with e
   rw [e]
 ·subst h; exact rfl
theorem endsO_ret {vs : List RV} {r : PV} {H' : Heap} {nx' : Nat} {e : Exit} {s : AState} (h : EndsP P G B vs (fun r0 H0 nx0 => r0 = r ∧ H0 = H' ∧ nx0 = nx') e s) : EndsO P G B vs (.ret r H' nx') e s := h
theorem endsO_mk {vs : List RV} {r : PV} {H' : Heap} {nx' : Nat} {e : Exit} {s s2 : AState} {rs : List PV} (he : e = .normal ∨ e = .ret) (hs : Sub P G B s s2) (h1 : resM s2 vs = some rs) (h2 : oneOf rs = r) (h3 : s2.H = H') (h4 : s2.nx = nx') : EndsO P G B vs (.ret r H' nx') e s :=
 ⟨he, s2, rs, hs, h1, h2, h3, h4⟩
end
end Go.Abs
