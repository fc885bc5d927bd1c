/-
 Auxiliary facts. No statement of the program stands here.
-/
import Derived.Test.YtjkkgbdoeaihmaaGreatDoorUBQ27
import Derived.Test.YtjkkgbdoeaihmaaGreatDoorUBQ28
import Derived.Test.YtjkkgbdoeaihmaaGreatDoorUBQ29
import Derived.Test.YtjkkgbdoeaihmaaGreatDoorUBQ24
import Derived.Test.YtjkkgbdoeaihmaaGreatDoorUBQ13
import Derived.Test.YtjkkgbdoeaihmaaGreatDoorUBQ14
import Derived.Test.YtjkkgbdoeaihmaaGreatDoorUBQ15
import Derived.Test.YtjkkgbdoeaihmaaGreatDoorUBQ25
import Derived.Test.YtjkkgbdoeaihmaaGreatDoorUBQ19
namespace Go.Proofs.YtjkkgbdoeaihmaaGreatDoor
set_option linter.unusedSimpArgs false
set_option linter.unusedVariables false
open Go Go.Abs
variable {q : Gl}
noncomputable def gRead (ts : List T) : Option T := g2 (tSl eTok) tInt (fun l i => if l.length ≤ 1000000 ∧ 0 ≤ i ∧ i ≤ (l.length : Int) then some (readT (desS (l.map kt) 64 i.toNat)) else none) ts
theorem gRead_eq {t : T} {l : List Tok} (h : IsS eTok t l) (hl : l.length ≤ 1000000) {i : Nat} (hi : i ≤ l.length) : gRead [t, iv (i : Int)] = some (readT (desS (l.map kt) 64 i)) := by
 show g2 _ _ _ _ = _
 rw [g2_eq (τ := tSl eTok) (σ := tInt) (x := l) (y := (i : Int)) h rfl, if_pos ⟨hl, by omega, by omega⟩, Int.toNat_natCast]
theorem hRead : GOK Tryz.prog (G q) 17 gRead := g2_ok fun a b x y r ha hb hr => by
 split at hr
 ·rename_i hc
  injection hr with hr; subst hr
  cases hb
  obtain ⟨n, rfl⟩ := Int.eq_ofNat_of_zero_le hc.2.1
  exact read_ok ha hc.1 (by omega)
 ·cases hr
def gScan (ts : List T) : Option T := match ts with
 | [.v (.string s)] => if s.size ≤ 1000000 then some (scanT s.data.toList) else none
 | _ => none
theorem hScan : GOK Tryz.prog (G q) 36 gScan := fun args r h => by
 unfold gScan at h
 split at h
 ·split at h
  ·injection h with h; subst h; exact scan_call _ (by unfold lim; omega)
  ·cases h
 ·cases h
theorem hRScan : GOK Tryz.prog (G q) 16 gScan := fun args r h => by
 unfold gScan at h
 split at h
 ·split at h
  ·injection h with h; subst h; exact rscan_call _ (by unfold lim; omega)
  ·cases h
 ·cases h
def toksS (s : List UInt8) : Except Int (List Tok) := if 65536 < s.length then .error 7 else match scanS s 1 with
 | .error x => .error x.2
 | .ok ts => .ok ts
def parS (s : List UInt8) : Except Int Ds := match toksS s with
 | .error e => .error e
 | .ok ts => match desS (ts.map kt) 64 0 with
  | .error e => .error e
  | .ok (d, n) => if n < ts.length then .error 8 else .ok d
def parT : Except Int Ds → T
 | .ok d => .tu [dT d, iv 0]
 | .error e => .tu [dT zDs, iv e]
theorem toks_scan (s : List UInt8) : match toksS s with
  | .error e => e ≠ 0 ∧ ∃ k : Int, scanT s = .tu [nilS, iv k, iv e]
  | .ok ts => scanT s = .tu [treeS eTok ts, iv 0, iv 0] ∧ ts.length ≤ 65536 := by
 unfold toksS scanT
 by_cases h : 65536 < s.length
 ·rw [if_pos h, if_pos h]
  exact ⟨by omega, 0, rfl⟩
 ·rw [if_neg h, if_neg h]
  cases hs : scanS s 1 with
  | error x => exact ⟨(scanG_err _ _ _ _ hs).2, x.1, rfl⟩
  | ok ts => exact ⟨rfl, by have := scanS_len hs; omega⟩
theorem endP2 {R : T → Prop} {env : List (Nat × PV)} {H : Heap} {nx n a b ty : Nat} {d : Ds} {e : Int} (h6 : Abs.look env a = some (.ptr 0 0)) (hl : Abs.look H 0 = some (.cells ty ((encD d).map .t))) (h7 : Abs.look env b = some (.t (iv e)))
  (hR : R (.tu [dT d, iv e])) : EndsM [RV.cell a true 4, RV.tmp b] R .ret ⟨env, H, nx, n⟩ := by
 have hd := ld_d hl
 refine ends_of (ps := [.t (dT d), .t (iv e)]) (r := .tu [dT d, iv e]) (F := []) ?_ rfl hR
 simp only [resM, h6, h7, hd]
 try rfl
theorem st_dd (X : Row) (d : Ds) : storeM 4 [(1, X), (0, zD)] (.ptr 0 0) (.t (dT d)) = some [(1, X), (0, .cells 25 ((encD d).map .t))] := by
 cases d; rw [dT, encD]; rfl
theorem parse_core {F : FuncId} {M : MCode} {fs fr : Nat} (hM : M = M_desc_Parse ∧ fs = 36 ∧ fr = 17 ∨ M = M_r19_Parse ∧ fs = 16 ∧ fr = 18) (k : FnOK Tryz.prog (G q) F 1 35 M [(.cell 2 true 4), (.tmp 3)]) (c1 : GOK Tryz.prog (G q) fs gScan) (c2 : GOK Tryz.prog (G q) fr gRead) (s : ByteArray) (hs : s.size ≤ 1000000) :
  CallT Tryz.prog (G q) F [sv s] (· = parT (parS s.data.toList)) := by
 have C : Ctx Tryz.prog (G q) (orc [(fs, gScan), (fr, gRead)]) := (TblOK.cons c1 (.cons c2 .nil)).ctx mixed
 have hg : gScan [sv s] = some (scanT s.data.toList) := if_pos hs
 have ht := toks_scan s.data.toList
 obtain ⟨R, hR⟩ : ∃ R, R = parS s.data.toList := ⟨_, rfl⟩
 rw [← hR]
 unfold parS at hR
 refine k.call rfl ?_
 cases hts : toksS s.data.toList with
 | error e =>
  rw [hts] at ht hR
  obtain ⟨he, k0, hk⟩ := ht
  rw [hk] at hg
  simp only at hR
  rw [hR]
  have hb : (e != 0) = true := by simpa using he
  rcases hM with ⟨rfl, rfl, rfl⟩ | ⟨rfl, rfl, rfl⟩
  ·refine mc_runs C ?_
   simp -implicitDefEqProofs [M_desc_Parse, hg, hb, -evalK_build, bdZ, st_z0', -endsM_ret]
   exact endP2 (d := zDs) (ty := 25) rfl rfl rfl rfl
  ·refine mc_runs C ?_
   simp -implicitDefEqProofs [M_r19_Parse, hg, hb, -evalK_build, bdZ, st_z0', -endsM_ret]
   exact endP2 (d := zDs) (ty := 25) rfl rfl rfl rfl
 | ok ts =>
  rw [hts] at ht hR
  obtain ⟨hk, hn⟩ := ht
  rw [hk] at hg
  have hrd : gRead [treeS eTok ts, iv 0] = some (readT (desS (ts.map kt) 64 0)) := gRead_eq (i := 0) (IsS.tree eTok ts) (by omega) (by omega)
  have hlen : lenslM (.t (treeS eTok ts)) = some (.t (iv (ts.length : Int))) := (IsS.tree eTok ts).len
  simp only at hR
  generalize htree : treeS eTok ts = tt at hg hrd hlen
  cases hd : desS (ts.map kt) 64 0 with
  | error e =>
   rw [hd] at hrd hR
   simp only [readT] at hrd hR
   have he : e ≠ 0 := des_err _ _ _ hd
   have hb : (e != 0) = true := by simpa using he
   rw [hR]
   have st1 := st_z1 [(0, zD)] zDs
   have st0 : ∀ X : Row, storeM 4 [(1, X), (0, zD)] (.ptr 0 0) (.t (dT zDs)) = some [(1, X), (0, .cells 25 ((encD zDs).map .t))] := fun X => st_dd X zDs
   rcases hM with ⟨rfl, rfl, rfl⟩ | ⟨rfl, rfl, rfl⟩
   ·refine mc_runs C ?_
    simp -implicitDefEqProofs [M_desc_Parse, hg, hrd, hb, -evalK_build, bdZ, st1, st0, -endsM_ret]
    exact endP2 (d := zDs) (ty := 25) rfl rfl rfl rfl
   ·refine mc_runs C ?_
    simp -implicitDefEqProofs [M_r19_Parse, hg, hrd, hb, -evalK_build, bdZ, st1, st0, -endsM_ret]
    exact endP2 (d := zDs) (ty := 25) rfl rfl rfl rfl
  | ok y =>
   obtain ⟨d, n⟩ := y
   rw [hd] at hrd hR
   simp only [readT] at hrd hR
   have st1 := st_z1 [(0, zD)] d
   have st0 : ∀ (X : Row) (d' : Ds), storeM 4 [(1, X), (0, zD)] (.ptr 0 0) (.t (dT d')) = some [(1, X), (0, .cells 25 ((encD d').map .t))] := st_dd
   have ld : loadM true 4 [(1, .cells 25 ((encD d).map PV.t)), (0, zD)] (.ptr 1 0) = some (.t (dT d)) := ld_d rfl
   by_cases hlt : n < ts.length
   ·rw [if_pos hlt] at hR
    rw [hR]
    have hc : decide ((n : Int) < (ts.length : Int)) = true := by simpa using hlt
    rcases hM with ⟨rfl, rfl, rfl⟩ | ⟨rfl, rfl, rfl⟩
    ·refine mc_runs C ?_
     simp -implicitDefEqProofs [M_desc_Parse, hg, hrd, hlen, hlt, -evalK_build, bdZ, st1, st0, -endsM_ret]
     exact endP2 (d := zDs) (ty := 25) rfl rfl rfl rfl
    ·refine mc_runs C ?_
     simp -implicitDefEqProofs [M_r19_Parse, hg, hrd, hlen, hlt, -evalK_build, bdZ, st1, st0, -endsM_ret]
     exact endP2 (d := zDs) (ty := 25) rfl rfl rfl rfl
   ·rw [if_neg hlt] at hR
    rw [hR]
    rcases hM with ⟨rfl, rfl, rfl⟩ | ⟨rfl, rfl, rfl⟩
    ·refine mc_runs C ?_
     simp -implicitDefEqProofs [M_desc_Parse, hg, hrd, hlen, hlt, -evalK_build, bdZ, st1, st0, ld, -endsM_ret]
     exact endP2 (d := d) (ty := 25) rfl rfl rfl rfl
    ·refine mc_runs C ?_
     simp -implicitDefEqProofs [M_r19_Parse, hg, hrd, hlen, hlt, -evalK_build, bdZ, st1, st0, ld, -endsM_ret]
     exact endP2 (d := d) (ty := 25) rfl rfl rfl rfl
def gParse (ts : List T) : Option T := match ts with
 | [.v (.string s)] => if s.size ≤ 1000000 then some (parT (parS s.data.toList)) else none
 | _ => none
theorem gParse_eq {s : ByteArray} (h : s.size ≤ 1000000) : gParse [sv s] = some (parT (parS s.data.toList)) := if_pos h
theorem hParse : GOK Tryz.prog (G q) 20 gParse := fun args r h => by
 unfold gParse at h
 split at h
 ·split at h
  ·injection h with h; subst h; exact parse_core (.inl ⟨rfl, rfl, rfl⟩) k_desc_Parse hScan hRead _ (by assumption)
  ·cases h
 ·cases h
def leafOp (op : Int) : Bool := decide (op = 1) || decide (op = 2) || decide (op = 3)
def kidsB (op : Int) (kids : List Ds) : Bool :=
 if leafOp op then decide (kids.length = 0)
 else if op = 5 then decide (kids.length = 1)
 else if op = 7 then decide (2 ≤ kids.length)
 else if op = 4 then decide (2 ≤ kids.length) && !(kids.any fun k => decide (k.op = 4))
 else true
def formB (op : Int) (name : ByteArray) (path : List ByteArray) (kids : List Ds) : Bool :=
 (if leafOp op then isNamed false name else decide (name.size = 0)) && (decide (op = 5) == decide (0 < path.length)) && path.all (isNamed true) && kidsB op kids
def formE (op : Int) (name : ByteArray) (path : List ByteArray) (kids : List Ds) : Int :=
 if op < 1 ∨ 8 < op then 14 else if formB op name path kids then 0 else 1
mutual
def checkE : Ds → Nat → Int
 | .mk op name path kids, lv => if 64 < lv ∨ 64 < path.length ∨ 256 < kids.length then 7 else if formE op name path kids ≠ 0 then formE op name path kids
  else checkL kids (if op = 4 then lv else lv + 1)
def checkL : List Ds → Nat → Int
 | [], _ => 0
 | d :: r, lv => if checkE d lv ≠ 0 then checkE d lv else checkL r lv
end
inductive Small : Ds → Prop where
 | mk (op : Int) (name : ByteArray) (path : List ByteArray) (kids : List Ds) : name.size ≤ 60 → path.length ≤ 80 → (∀ s ∈ path, s.size ≤ 60) → kids.length ≤ 400 → (∀ k ∈ kids, Small k) → Small (.mk op name path kids)
mutual
def nodesD : Ds → Nat
 | .mk _ _ _ kids => nodesL kids + 1
def nodesL : List Ds → Nat
 | [] => 0
 | d :: r => nodesD d + nodesL r
end
abbrev dRow (op : Int) (name : ByteArray) (tp tk : T) : Row := .cells 25 [.t (iv op), .t (sv name), .t tp, .t tk]
theorem box_d (op : Int) (name : ByteArray) (tp tk : T) : cellsP (.t (.ag [iv op, sv name, tp, tk])) = some [.t (iv op), .t (sv name), .t tp, .t tk] := rfl
section
variable (H R : Heap) (op : Int) (name : ByteArray) (tp tk : T)
theorem dl0 : loadM false 1 ((0, dRow op name tp tk) :: R) (.ptr 0 0) = some (.t (iv op)) := rfl
theorem dl1 : loadM false 1 ((0, dRow op name tp tk) :: R) (.ptr 0 1) = some (.t (sv name)) := rfl
theorem dl2 : loadM false 1 ((0, dRow op name tp tk) :: R) (.ptr 0 2) = some (.t tp) := rfl
theorem dl3 : loadM false 1 ((0, dRow op name tp tk) :: R) (.ptr 0 3) = some (.t tk) := rfl
theorem dl4 : loadM true 4 ((0, dRow op name tp tk) :: R) (.ptr 0 0) = some (.t (.ag [iv op, sv name, tp, tk])) := rfl
end
theorem lh1 (H : Heap) (a : T) (r : List T) : loadM false 1 H (.t (.pt (a :: r))) = some (.t a) := rfl
theorem str_at {tp : T} {path : List ByteArray} (h : IsS eStr tp path) {i : Nat} {s : ByteArray} (hx : path[i]? = some s) : ∃ r, iaddrM 1 (.t tp) (.t (.v (.int .i64 (i : Int)))) = some (.t (.pt (sv s :: r))) := ⟨_, h.iaddr hx .i64⟩
theorem kid_at {tk : T} {kids : List Ds} (h : IsK tk kids) {i : Nat} {x : Ds} (hx : kids[i]? = some x) : ∃ p c, iaddrM 4 (.t tk) (.t (.v (.int .i64 (i : Int)))) = some (.t (.pt p)) ∧ (∀ H, loadM true 4 H (.t (.pt p)) = some (.t (.ag c))) ∧ Abs.IsD x c := by
 obtain ⟨ci, r, h1, h2⟩ := h.iaddr hx .i64
 refine ⟨_, ci, h1, fun H => ?_, h2⟩
 have := h2.len
 simp only [loadM, List.length_append, this, if_true]
 rw [if_pos (by omega), show (4 : Nat) = ci.length by omega, List.take_left]
def SSm (n : Nat) (t u : T) (j : Nat) : AState := ⟨[(5, .t (iv (j : Int))), (1, .t u), (0, .t t)], [], 0, n⟩
def SSmE (n : Nat) (t u : T) : AState := ⟨[(1, .t u), (0, .t t)], [], 0, n⟩
theorem ctx00 : Ctx Tryz.prog (G q) (orc []) := TblOK.nil.ctx mixed
theorem same_call {t u : T} {l : List ByteArray} (ht : IsS eStr t l) (hu : IsS eStr u l) (hb : l.length ≤ 9223372036854775806) : CallT Tryz.prog (G q) 26 [t, u] (· = bv true) := by
 refine k_r01_Same.call rfl ?_
 unfold M_r01_Same
 have l1 := ht.len
 have l2 := hu.len
 refine mc_seq_runs ctx00 ?_
 simp -implicitDefEqProofs
 refine mc_seq_runs ctx00 ?_
 simp -implicitDefEqProofs [l1, l2]
 refine mc_cut (α := Unit) (fun _ => SSmE 26 t u) (fun _ => True) (fun _ => rfl) ?_ ?_
 ·refine mc_seq_runs ctx00 ?_
  simp -implicitDefEqProofs
  refine mc_block ?_
  refine mc_for (SSm 26 t u) l.length (fun _ => rfl) ?_ rfl ?_ ?_
  ·refine sub_forget rfl rfl ?_ ?_ <;> simp -implicitDefEqProofs [SSm]
  ·intro j hj
   refine mc_runs ctx00 ?_
   obtain ⟨x, hx⟩ : ∃ x, l[j]? = some x := ⟨_, List.getElem?_eq_getElem hj⟩
   have i1 : iaddrM 1 (.t t) (.t (iv (j : Int))) = some (.t (.pt (eStr.enc x ++ rest eStr l j))) := ht.iaddr hx .i64
   have i2 : iaddrM 1 (.t u) (.t (iv (j : Int))) = some (.t (.pt (eStr.enc x ++ rest eStr l j))) := hu.iaddr hx .i64
   have ld : loadM false 1 [] (.t (.pt (eStr.enc x ++ rest eStr l j))) = some (.t (sv x)) := rfl
   have e1 : IntKind.i64.wrap ((j : Int) + 1) = ((j + 1 : Nat) : Int) := wrap_nat (by omega) (by omega)
   simp -implicitDefEqProofs [SSm, l1, hj, i1, i2, ld, e1]
   refine sub_forget rfl rfl ?_ ?_ <;> simp -implicitDefEqProofs
  ·refine mc_runs ctx00 ?_
   simp -implicitDefEqProofs [SSm, l1]
   exact Abs.Next.mk () trivial (sub_forget rfl rfl (by simp -implicitDefEqProofs [SSmE]) (by simp -implicitDefEqProofs [SSmE]))
 ·rintro _ _
  refine mc_runs ctx00 ?_
  simp -implicitDefEqProofs [SSmE]
noncomputable def gSame (ts : List T) : Option T := g2 (tSl eStr) (tSl eStr) (fun a b => open Classical in if a = b ∧ a.length ≤ 9223372036854775806 then some (bv true) else none) ts
theorem hSame : GOK Tryz.prog (G q) 26 gSame :=
 g2_ok fun a b x y r ha hb hr => by
  split at hr
  ·rename_i hc
   obtain ⟨rfl, hl⟩ := hc
   injection hr with hr; subst hr
   exact same_call ha hb hl
  ·cases hr
theorem gSame_eq {t u : T} {l : List ByteArray} (ht : IsS eStr t l) (hu : IsS eStr u l) (hl : l.length ≤ 9223372036854775806) : gSame [t, u] = some (bv true) := by
 show g2 _ _ _ _ = _
 rw [g2_eq (τ := tSl eStr) (σ := tSl eStr) ht hu, if_pos ⟨rfl, hl⟩]
inductive Fine : Ds → Prop where
 | mk (op : Int) (name : ByteArray) (path : List ByteArray) (kids : List Ds) : path.length ≤ 1000 → kids.length ≤ 1000 → (∀ k ∈ kids, Fine k) → Fine (.mk op name path kids)
theorem Fine.parts {op : Int} {name : ByteArray} {path : List ByteArray} {kids : List Ds} (h : Fine (.mk op name path kids)) : path.length ≤ 1000 ∧ kids.length ≤ 1000 ∧ ∀ k ∈ kids, Fine k := by
 cases h with
 | mk _ _ _ _ h1 h2 h3 => exact ⟨h1, h2, h3⟩
noncomputable def gSd (m : Nat) (ts : List T) : Option T := g2 tD tD (fun a b => open Classical in if a = b ∧ Fine a ∧ a.depth ≤ m then some (bv true) else none) ts
noncomputable def gSds (m : Nat) (ts : List T) : Option T := g2 tK tK (fun a b => open Classical in if a = b ∧ a.length ≤ 1000 ∧ (∀ k ∈ a, Fine k) ∧ depthL a ≤ m then some (bv true) else none) ts
theorem gSd_eq {m : Nat} {c c' : List T} {d : Ds} (h : Abs.IsD d c) (h' : Abs.IsD d c') (hf : Fine d) (hd : d.depth ≤ m) : gSd m [.ag c, .ag c'] = some (bv true) := by
 show g2 _ _ _ _ = _
 rw [g2_eq (τ := tD) (σ := tD) ⟨c, rfl, h⟩ ⟨c', rfl, h'⟩, if_pos ⟨rfl, hf, hd⟩]
theorem gSds_eq {m : Nat} {t u : T} {l : List Ds} (h : IsK t l) (h' : IsK u l) (hl : l.length ≤ 1000) (hf : ∀ k ∈ l, Fine k) (hd : depthL l ≤ m) : gSds m [t, u] = some (bv true) := by
 show g2 _ _ _ _ = _
 rw [g2_eq (τ := tK) (σ := tK) h h', if_pos ⟨rfl, hl, hf, hd⟩]
theorem sames_call {m : Nat} (hrec : GOK Tryz.prog (G q) 19 (gSd m)) {t u : T} {l : List Ds} (h : IsK t l) (h' : IsK u l) (hl : l.length ≤ 1000) (hf : ∀ k ∈ l, Fine k) (hd : depthL l ≤ m) :
  CallT Tryz.prog (G q) 27 [t, u] (· = bv true) := by
 have C := (TblOK.cons hrec .nil).ctx mixed
 refine k_r19_SameDescs.call rfl ?_
 unfold M_r19_SameDescs
 have l1 := h.len
 have l2 := h'.len
 refine mc_seq_runs C ?_
 simp -implicitDefEqProofs
 refine mc_seq_runs C ?_
 simp -implicitDefEqProofs [l1, l2]
 refine mc_cut (α := Unit) (fun _ => SSmE 27 t u) (fun _ => True) (fun _ => rfl) ?_ ?_
 ·refine mc_seq_runs C ?_
  simp -implicitDefEqProofs
  refine mc_block ?_
  refine mc_for (SSm 27 t u) l.length (fun _ => rfl) ?_ rfl ?_ ?_
  ·refine sub_forget rfl rfl ?_ ?_ <;> simp -implicitDefEqProofs [SSm]
  ·intro j hj
   refine mc_runs C ?_
   obtain ⟨x, hx⟩ : ∃ x, l[j]? = some x := ⟨_, List.getElem?_eq_getElem hj⟩
   obtain ⟨p, c, i1, ld1, hc⟩ := kid_at h hx
   obtain ⟨p', c', i2, ld2, hc'⟩ := kid_at h' hx
   have hmem := List.mem_of_getElem? hx
   have hg := gSd_eq hc hc' (hf x hmem) (Nat.le_trans (depth_kid hmem) hd)
   have e1 : IntKind.i64.wrap ((j : Int) + 1) = ((j + 1 : Nat) : Int) := wrap_nat (by omega) (by omega)
   simp -implicitDefEqProofs [SSm, l1, hj, i1, i2, ld1, ld2, hg, e1]
   refine sub_forget rfl rfl ?_ ?_ <;> simp -implicitDefEqProofs
  ·refine mc_runs C ?_
   simp -implicitDefEqProofs [SSm, l1]
   exact Abs.Next.mk () trivial (sub_forget rfl rfl (by simp -implicitDefEqProofs [SSmE]) (by simp -implicitDefEqProofs [SSmE]))
 ·rintro _ _
  refine mc_runs C ?_
  simp -implicitDefEqProofs [SSmE]
section
variable (R : Heap) (X : Row) (op : Int) (name : ByteArray) (tp tk : T)
theorem el0 : loadM false 1 ((1, dRow op name tp tk) :: R) (.ptr 1 0) = some (.t (iv op)) := rfl
theorem el1 : loadM false 1 ((1, dRow op name tp tk) :: R) (.ptr 1 1) = some (.t (sv name)) := rfl
theorem el2 : loadM false 1 ((1, dRow op name tp tk) :: R) (.ptr 1 2) = some (.t tp) := rfl
theorem el3 : loadM false 1 ((1, dRow op name tp tk) :: R) (.ptr 1 3) = some (.t tk) := rfl
theorem fl0 : loadM false 1 ((1, X) :: (0, dRow op name tp tk) :: R) (.ptr 0 0) = some (.t (iv op)) := rfl
theorem fl1 : loadM false 1 ((1, X) :: (0, dRow op name tp tk) :: R) (.ptr 0 1) = some (.t (sv name)) := rfl
theorem fl2 : loadM false 1 ((1, X) :: (0, dRow op name tp tk) :: R) (.ptr 0 2) = some (.t tp) := rfl
theorem fl3 : loadM false 1 ((1, X) :: (0, dRow op name tp tk) :: R) (.ptr 0 3) = some (.t tk) := rfl
end
theorem sameD_call {m : Nat} (hrec : GOK Tryz.prog (G q) 27 (gSds m)) {c c' : List T} {d : Ds} (h : Abs.IsD d c) (h' : Abs.IsD d c') (hf : Fine d) (hd : d.depth ≤ m + 1) :
  CallT Tryz.prog (G q) 19 [.ag c, .ag c'] (· = bv true) := by
 cases d with
 | mk op name path kids =>
 obtain ⟨tp, tk, rfl, hp, hk⟩ := h.parts
 obtain ⟨tp', tk', rfl, hp', hk'⟩ := h'.parts
 obtain ⟨f1, f2, f3⟩ := hf.parts
 rw [Ds.depth] at hd
 have C := (TblOK.cons hrec (.cons hSame .nil)).ctx mixed
 have g1 := gSame_eq hp hp' (by omega)
 have g2 := gSds_eq (m := m) hk hk' f2 f3 (by omega)
 refine k_r19_SameDesc.call rfl ?_
 refine mc_runs C ?_
 simp -implicitDefEqProofs [M_r19_SameDesc, box_d, fl0, fl1, fl2, fl3, el0, el1, el2, el3, g1, g2]
theorem hSds_step (m : Nat) (hrec : GOK Tryz.prog (G q) 19 (gSd m)) : GOK Tryz.prog (G q) 27 (gSds m) :=
 g2_ok fun a b x y r ha hb hr => by
  split at hr
  ·rename_i hc
   obtain ⟨rfl, h1, h2, h3⟩ := hc
   injection hr with hr; subst hr
   exact sames_call hrec ha hb h1 h2 h3
  ·cases hr
theorem hSd : ∀ m, GOK Tryz.prog (G q) 19 (gSd m)
 | 0 => g2_ok fun a b x y r ha hb hr => by
  split at hr
  ·rename_i hc
   obtain ⟨rfl, h1, h2⟩ := hc
   cases x with
   | mk _ _ _ _ => rw [Ds.depth] at h2; omega
  ·cases hr
 | m + 1 => g2_ok fun a b x y r ha hb hr => by
  split at hr
  ·rename_i hc
   obtain ⟨rfl, h1, h2⟩ := hc
   injection hr with hr; subst hr
   obtain ⟨c, rfl, hcx⟩ := ha
   obtain ⟨c', rfl, hcx'⟩ := hb
   exact sameD_call (hSds_step m (hSd m)) hcx hcx' h1 h2
  ·cases hr
inductive Sized : Ds → Prop where
 | mk (op : Int) (name : ByteArray) (path : List ByteArray) (kids : List Ds) : name.size ≤ 1000000 → path.length ≤ 1000 → (∀ s ∈ path, s.size ≤ 1000000) → kids.length ≤ 1000 → (∀ k ∈ kids, Sized k) → Sized (.mk op name path kids)
theorem Sized.parts {op : Int} {name : ByteArray} {path : List ByteArray} {kids : List Ds} (h : Sized (.mk op name path kids)) : name.size ≤ 1000000 ∧ path.length ≤ 1000 ∧ (∀ s ∈ path, s.size ≤ 1000000) ∧ kids.length ≤ 1000 ∧ ∀ k ∈ kids, Sized k := by
 cases h with
 | mk _ _ _ _ h1 h2 h3 h4 h5 => exact ⟨h1, h2, h3, h4, h5⟩
theorem Small.sized : ∀ {d : Ds}, Small d → Sized d := fun h => by
 induction h with
 | mk op name path kids h1 h2 h3 h4 h5 ih => exact .mk op name path kids (by omega) (by omega) (fun s hs => by have := h3 s hs; omega) (by omega) ih
def dotted : List ByteArray → List UInt8
 | [] => []
 | s :: r => s.data.toList ++ (match r with | [] => [] | _ :: _ => 46 :: dotted r)
def tkP : List ByteArray → List KT
 | [] => []
 | s :: r => (2, s.data.toList) :: (match r with | [] => [] | _ :: _ => (5, [46]) :: tkP r)
def sepOf {α β : Type} (sep last : List α) (r : List β) : List α := match r with
 | [] => []
 | [_] => last
 | _ :: _ :: _ => sep
mutual
def wrD : Ds → List UInt8
 | .mk op name path kids =>
  if op = 1 then name.data.toList
  else if op = 2 then 64 :: name.data.toList
  else if op = 3 then 35 :: name.data.toList
  else if op = 4 then wrL [32, 38, 32] [32, 38, 32] kids
  else if op = 5 then 91 :: (dotted path ++ 32 :: (wrL [] [] kids ++ [93]))
  else if op = 6 then 60 :: (wrL [44, 32] [44, 32] kids ++ [62])
  else if op = 7 then 60 :: (wrL [44, 32] [32, 124, 32] kids ++ [62])
  else if kids.length = 0 then [60, 33, 32, 33, 62]
  else 60 :: 33 :: 32 :: (wrL [44, 32] [44, 32] kids ++ [32, 33, 62])
def wrL (sep last : List UInt8) : List Ds → List UInt8
 | [] => []
 | d :: r => wrD d ++ (sepOf sep last r ++ wrL sep last r)
end
mutual
def tkD : Ds → List KT
 | .mk op name path kids =>
  if op = 1 then [(1, name.data.toList)]
  else if op = 2 then [(5, [64]), (1, name.data.toList)]
  else if op = 3 then [(5, [35]), (1, name.data.toList)]
  else if op = 4 then tkL [(5, [38])] [(5, [38])] kids
  else if op = 5 then (5, [91]) :: (tkP path ++ (tkL [] [] kids ++ [(5, [93])]))
  else if op = 6 then (5, [60]) :: (tkL [(5, [44])] [(5, [44])] kids ++ [(5, [62])])
  else if op = 7 then (5, [60]) :: (tkL [(5, [44])] [(5, [124])] kids ++ [(5, [62])])
  else (5, [60, 33]) :: (tkL [(5, [44])] [(5, [44])] kids ++ [(5, [33, 62])])
def tkL (sep last : List KT) : List Ds → List KT
 | [] => []
 | d :: r => tkD d ++ (sepOf sep last r ++ tkL sep last r)
end
def Scn (X : List UInt8) (ks : List KT) : Prop := ∀ (l f : Nat), X.length < f → scanC f false X l = .ok (ks.map fun q => ⟨q.1, q.2, l⟩)
theorem sc_nil : Scn [] [] := fun l f hf => by
 obtain ⟨f, rfl⟩ : ∃ g, f = g + 1 := ⟨f - 1, by omega⟩
 rfl
theorem sc_space {X : List UInt8} {ks : List KT} (h : Scn X ks) : Scn (32 :: X) ks := fun l f hf => by
 rw [List.length_cons] at hf
 have e : skipS false (32 :: X) = ((skipS false X).1 + 1, (skipS false X).2) := by
  rw [skipS, if_neg (by decide), if_neg (by decide), if_pos (by decide)]
 have := h l f (by omega)
 rw [scanC, e, List.drop_succ_cons]
 exact this
theorem sc_tok {k : Int} {t : List UInt8} {X : List UInt8} {ks : List KT} (h : Scn X ks) (ht : t ≠ []) (hn : nextS (t ++ X) = ⟨k, t, 0, t.length⟩) : Scn (t ++ X) ((k, t) :: ks) := fun l f hf => by
 cases t with
 | nil => exact absurd rfl ht
 | cons c r =>
  obtain ⟨f, rfl⟩ : ∃ g, f = g + 1 := ⟨f - 1, by omega⟩
  have he : (nextS (c :: (r ++ X))).e = 0 := by
   have : nextS (c :: (r ++ X)) = _ := hn
   rw [this]
  have hn' : nextS (c :: (r ++ X)) = ⟨k, c :: r, 0, (c :: r).length⟩ := hn
  have h0 := next_head c (r ++ X) he
  rw [List.cons_append, scanC, h0]
  have st := scan_step f c (r ++ X) l he
  have e0 : (c :: (r ++ X)).drop (0, 0).1 = c :: (r ++ X) := rfl
  have el : l + ((0, 0) : Nat × Nat).2 = l := rfl
  rw [e0, el, st, hn']
  have hd : (c :: (r ++ X)).drop (c :: r).length = X := List.drop_left' rfl
  simp only [hd]
  rw [List.cons_append, List.length_cons, List.length_append] at hf
  rw [h l f (by omega)]
  rfl
theorem run_all {big : Bool} : ∀ {D X : List UInt8}, D.all (isPart big) = true → (∀ c r, X = c :: r → isPart big c = false) → runN big (D ++ X) = D.length
 | [], X, _, hx => by
  cases X with
  | nil => rfl
  | cons c r => unfold runN; rw [List.nil_append, List.takeWhile_cons, if_neg (by rw [hx c r rfl]; simp)]
 | c :: D, X, h, hx => by
  rw [List.all_cons, Bool.and_eq_true] at h
  have ih := run_all h.2 hx
  unfold runN at ih ⊢
  rw [List.cons_append, List.takeWhile_cons, if_pos h.1, List.length_cons, ih, List.length_cons]
theorem named_parts {big : Bool} {s : ByteArray} (h : isNamed big s = true) : ∃ c r, s.data.toList = c :: r ∧ s.size ≤ 32 ∧ isDig c = false ∧ c.toNat ≠ 45 ∧ (c :: r).all (isPart big) = true := by
 unfold isNamed at h
 split at h
 ·cases h
 ·rename_i c r hs
  simp only [Bool.and_eq_true, Bool.not_eq_true', decide_eq_true_eq, decide_eq_false_iff_not] at h
  exact ⟨c, r, hs, h.1.1.1, h.1.1.2, h.1.2, h.2⟩
theorem name_next {s : ByteArray} (h : isNamed false s = true) {X : List UInt8} (hx : ∀ c r, X = c :: r → isPart false c = false) : nextS (s.data.toList ++ X) = ⟨1, s.data.toList, 0, s.data.toList.length⟩ := by
 obtain ⟨c, r, hs, hl, hd, h45, hall⟩ := named_parts h
 have hlen : s.data.toList.length = s.size := rfl
 rw [hs] at hlen ⊢
 have hlow : isLow c = true := by
  rw [List.all_cons, Bool.and_eq_true] at hall
  have := hall.1
  simpa [isPart, hd, h45] using this
 have hrun := run_all hall hx
 have e : nextS (c :: r ++ X) = ⟨1, (c :: r ++ X).take (runN false (c :: r ++ X)), if 32 < runN false (c :: r ++ X) then 7 else 0, runN false (c :: r ++ X)⟩ := by
  rw [List.cons_append, nextS, if_pos hlow]
 rw [e, hrun, List.take_left', if_neg (by omega)]
 rfl
theorem feat_next {s : ByteArray} (h : isNamed true s = true) {X : List UInt8} (hx : ∀ c r, X = c :: r → isPart true c = false) : nextS (s.data.toList ++ X) = ⟨2, s.data.toList, 0, s.data.toList.length⟩ := by
 obtain ⟨c, r, hs, hl, hd, h45, hall⟩ := named_parts h
 have hlen : s.data.toList.length = s.size := rfl
 rw [hs] at hlen ⊢
 have hup : isUp c = true := by
  rw [List.all_cons, Bool.and_eq_true] at hall
  have := hall.1
  simpa [isPart, hd, h45] using this
 have hlow : isLow c = false := by
  cases hl : isLow c with
  | false => rfl
  | true => rw [low_not_up hl] at hup; cases hup
 have hrun := run_all hall hx
 have e : nextS (c :: r ++ X) = ⟨2, (c :: r ++ X).take (runN true (c :: r ++ X)), if 32 < runN true (c :: r ++ X) then 7 else 0, runN true (c :: r ++ X)⟩ := by
  rw [List.cons_append, nextS, if_neg (by rw [hlow]; simp), if_pos hup]
 rw [e, hrun, List.take_left', if_neg (by omega)]
 rfl
theorem sym_next {c : UInt8} (h1 : isLow c = false) (h2 : isUp c = false) (h3 : (isDig c || decide (c.toNat = 45)) = false) (h4 : ¬ c.toNat = 34) (h5 : symC.contains c = true) {X : List UInt8} (hx : c ≠ 33) (hy : c = 60 → ∀ r, X ≠ 33 :: r) :
  nextS (c :: X) = ⟨5, [c], 0, 1⟩ := by
 have hs : symS (c :: X) = (1, 0) := by
  cases X with
  | nil => rw [sym_one, if_pos h5]
  | cons d r =>
   rw [sym_two]
   have e1 : (33 == c) = false := by rw [beq_eq_false_iff_ne]; exact fun e => hx e.symm
   have e2 : ((60 == c) && (33 == d)) = false := by
    by_cases e : c = 60
    ·have : d ≠ 33 := fun e3 => hy e r (by rw [e3])
     have : (33 == d) = false := by rw [beq_eq_false_iff_ne]; exact fun e => this e.symm
     rw [this, Bool.and_false]
    ·have : (60 == c) = false := by rw [beq_eq_false_iff_ne]; exact fun e3 => e e3.symm
     rw [this, Bool.false_and]
   rw [e1, e2, Bool.false_and, Bool.or_false, if_neg (by simp), if_pos h5]
 rw [nextS, if_neg (by rw [h1]; simp), if_neg (by rw [h2]; simp), if_neg (by rw [h3]; simp), if_neg h4, hs]
 rfl
theorem sym_open (X : List UInt8) : nextS (60 :: 33 :: X) = ⟨5, [60, 33], 0, 2⟩ := by
 have hs : symS (60 :: 33 :: X) = (2, 0) := by rw [sym_two]; rfl
 rw [nextS, if_neg (by decide), if_neg (by decide), if_neg (by decide), if_neg (by decide), hs]
 rfl
theorem sym_close (X : List UInt8) : nextS (33 :: 62 :: X) = ⟨5, [33, 62], 0, 2⟩ := by
 have hs : symS (33 :: 62 :: X) = (2, 0) := by rw [sym_two]; rfl
 rw [nextS, if_neg (by decide), if_neg (by decide), if_neg (by decide), if_neg (by decide), hs]
 rfl
def HX (X : List UInt8) : Prop := ∀ c r, X = c :: r → c = 32 ∨ c = 44 ∨ c = 62 ∨ c = 93
theorem HX.nil : HX [] := fun c r h => by cases h
theorem HX.part {X : List UInt8} (h : HX X) (big : Bool) : ∀ c r, X = c :: r → isPart big c = false := fun c r e => by
 rcases h c r e with rfl | rfl | rfl | rfl <;> cases big <;> decide
theorem sc_name {s : ByteArray} (h : isNamed false s = true) {X : List UInt8} {ks : List KT} (hx : HX X) (hs : Scn X ks) : Scn (s.data.toList ++ X) ((1, s.data.toList) :: ks) := by
 obtain ⟨c, r, e, _⟩ := named_parts h
 exact sc_tok hs (by rw [e]; simp) (name_next h (hx.part false))
theorem sc_path : ∀ (path : List ByteArray), path.all (isNamed true) = true → ∀ {X : List UInt8} {ks : List KT}, Scn X ks → Scn (dotted path ++ 32 :: X) (tkP path ++ ks)
 | [], _, X, ks, h => sc_space h
 | s :: r, hp, X, ks, h => by
  rw [List.all_cons, Bool.and_eq_true] at hp
  obtain ⟨c, r', e, _⟩ := named_parts hp.1
  cases r with
  | nil =>
   rw [dotted, tkP]
   simp only [List.append_nil, List.cons_append, List.nil_append]
   exact sc_tok (sc_space h) (by rw [e]; simp) (feat_next hp.1 fun c r e => by injection e with e _; subst e; decide)
  | cons s2 r2 =>
   have ih := sc_path (s2 :: r2) hp.2 h
   rw [dotted, tkP]
   simp only [List.append_assoc, List.cons_append]
   refine sc_tok ?_ (by rw [e]; simp) (feat_next hp.1 fun c r e => by injection e with e _; subst e; decide)
   exact sc_tok (t := [46]) ih (by simp) (sym_next (by decide) (by decide) (by decide) (by decide) (by decide) (by decide) (fun h => absurd h (by decide)))
theorem check_parts {op : Int} {name : ByteArray} {path : List ByteArray} {kids : List Ds} {lv : Nat} (h : checkE (.mk op name path kids) lv = 0) :
  lv ≤ 64 ∧ path.length ≤ 64 ∧ kids.length ≤ 256 ∧ 1 ≤ op ∧ op ≤ 8 ∧ formB op name path kids = true ∧ checkL kids (if op = 4 then lv else lv + 1) = 0 := by
 rw [checkE] at h
 split at h
 ·cases h
 ·rename_i h1
  split at h
  ·rename_i h2; exact absurd h h2
  ·rename_i h2
   have h2' : formE op name path kids = 0 := by simpa using h2
   unfold formE at h2'
   split at h2'
   ·cases h2'
   ·rename_i h3
    split at h2'
    ·rename_i h4
     refine ⟨by omega, by omega, by omega, by omega, by omega, h4, h⟩
    ·cases h2'
theorem checkL_cons {d : Ds} {r : List Ds} {lv : Nat} (h : checkL (d :: r) lv = 0) : checkE d lv = 0 ∧ checkL r lv = 0 := by
 rw [checkL] at h
 split at h
 ·rename_i h1; exact absurd h h1
 ·rename_i h1; exact ⟨by simpa using h1, h⟩
theorem form_parts {op : Int} {name : ByteArray} {path : List ByteArray} {kids : List Ds} (h : formB op name path kids = true) :
  (if leafOp op then isNamed false name = true else name.size = 0) ∧ (op = 5 ↔ 0 < path.length) ∧ path.all (isNamed true) = true ∧ kidsB op kids = true := by
 unfold formB at h
 simp only [Bool.and_eq_true, beq_iff_eq, decide_eq_decide] at h
 obtain ⟨⟨⟨h1, h2⟩, h3⟩, h4⟩ := h
 refine ⟨?_, h2, h3, h4⟩
 split at h1
 ·rename_i h5; rw [if_pos h5]; exact h1
 ·rename_i h5; rw [if_neg h5]; simpa using h1
theorem wr_head : ∀ (d : Ds) (lv : Nat), checkE d lv = 0 → ∃ c r, wrD d = c :: r ∧ c ≠ 33
 | .mk op name path kids, lv, h => by
  obtain ⟨_, _, _, o1, o8, hf, hk⟩ := check_parts h
  obtain ⟨f1, f2, f3, f4⟩ := form_parts hf
  rw [wrD]
  split
  ·rename_i e; subst e
   have f1' : isNamed false name = true := f1
   obtain ⟨c, r, e, _, hd, h45, hall⟩ := named_parts f1'
   refine ⟨c, r, e, fun e => ?_⟩
   subst e
   rw [List.all_cons, Bool.and_eq_true] at hall
   exact absurd hall.1 (by decide)
  ·split
   ·exact ⟨_, _, rfl, by decide⟩
   ·split
    ·exact ⟨_, _, rfl, by decide⟩
    ·split
     ·rename_i e
      subst e
      cases kids with
      | nil => exact absurd f4 (by decide)
      | cons k r =>
       obtain ⟨c, r', e, hc⟩ := wr_head k _ (checkL_cons hk).1
       rw [wrL, e]
       exact ⟨c, _, rfl, hc⟩
     ·split
      ·exact ⟨_, _, rfl, by decide⟩
      ·split
       ·exact ⟨_, _, rfl, by decide⟩
       ·split
        ·exact ⟨_, _, rfl, by decide⟩
        ·split
         ·exact ⟨_, _, rfl, by decide⟩
         ·exact ⟨_, _, rfl, by decide⟩
def Gs (sep : List UInt8) (ks : List KT) : Prop := (∀ X kx, Scn X kx → Scn (sep ++ X) (ks ++ kx)) ∧ ∀ X, HX (sep ++ X)
theorem gs_and : Gs [32, 38, 32] [(5, [38])] :=
 ⟨fun X kx h => sc_space (sc_tok (t := [38]) (sc_space h) (by simp) (sym_next (by decide) (by decide) (by decide) (by decide) (by decide) (by decide) (fun h => absurd h (by decide)))), fun X c r e => by injection e with e _; exact .inl e.symm⟩
theorem gs_bar : Gs [32, 124, 32] [(5, [124])] :=
 ⟨fun X kx h => sc_space (sc_tok (t := [124]) (sc_space h) (by simp) (sym_next (by decide) (by decide) (by decide) (by decide) (by decide) (by decide) (fun h => absurd h (by decide)))), fun X c r e => by injection e with e _; exact .inl e.symm⟩
theorem gs_comma : Gs [44, 32] [(5, [44])] :=
 ⟨fun X kx h => sc_tok (t := [44]) (sc_space h) (by simp) (sym_next (by decide) (by decide) (by decide) (by decide) (by decide) (by decide) (fun h => absurd h (by decide))), fun X c r e => by injection e with e _; exact .inr (.inl e.symm)⟩
theorem head_close (kids : List Ds) (sep last : List UInt8) (lv : Nat) (h : checkL kids lv = 0) (X : List UInt8) : ∀ r, wrL sep last kids ++ 62 :: X ≠ 33 :: r := by
 intro r e
 cases kids with
 | nil => rw [wrL] at e; injection e with e _; exact absurd e (by decide)
 | cons k ks =>
  obtain ⟨c, r', e1, hc⟩ := wr_head k lv (checkL_cons h).1
  rw [wrL, e1] at e
  injection e with e _
  exact hc e
mutual
theorem sc_D : ∀ (d : Ds) (lv : Nat), checkE d lv = 0 → ∀ {X : List UInt8} {ks : List KT}, HX X → Scn X ks → Scn (wrD d ++ X) (tkD d ++ ks)
 | .mk op name path kids, lv, h, X, ks, hx, hs => by
  obtain ⟨_, _, _, o1, o8, hf, hk⟩ := check_parts h
  obtain ⟨f1, f2, f3, f4⟩ := form_parts hf
  rw [wrD, tkD]
  by_cases e1 : op = 1
  ·subst e1
   rw [if_pos rfl, if_pos rfl]
   exact sc_name f1 hx hs
  rw [if_neg e1, if_neg e1]
  by_cases e2 : op = 2
  ·subst e2
   rw [if_pos rfl, if_pos rfl]
   exact sc_tok (t := [64]) (sc_name f1 hx hs) (by simp) (sym_next (by decide) (by decide) (by decide) (by decide) (by decide) (by decide) (fun h => absurd h (by decide)))
  rw [if_neg e2, if_neg e2]
  by_cases e3 : op = 3
  ·subst e3
   rw [if_pos rfl, if_pos rfl]
   exact sc_tok (t := [35]) (sc_name f1 hx hs) (by simp) (sym_next (by decide) (by decide) (by decide) (by decide) (by decide) (by decide) (fun h => absurd h (by decide)))
  rw [if_neg e3, if_neg e3]
  by_cases e4 : op = 4
  ·subst e4
   rw [if_pos rfl, if_pos rfl]
   exact sc_L kids _ hk _ _ _ _ (.inr ⟨gs_and, gs_and⟩) hx hs
  rw [if_neg e4, if_neg e4]
  rw [if_neg e4] at hk
  by_cases e5 : op = 5
  ·subst e5
   rw [if_pos rfl, if_pos rfl]
   have hl : kids.length ≤ 1 := by
    have : kidsB 5 kids = decide (kids.length = 1) := rfl
    rw [this] at f4
    have := of_decide_eq_true f4
    omega
   simp only [List.cons_append, List.append_assoc, List.nil_append]
   refine sc_tok (t := [91]) ?_ (by simp) (sym_next (by decide) (by decide) (by decide) (by decide) (by decide) (by decide) (fun h => absurd h (by decide)))
   refine sc_path path f3 ?_
   refine sc_L kids _ hk _ _ _ _ (.inl hl) (fun c r e => by injection e with e _; exact .inr (.inr (.inr e.symm))) ?_
   exact sc_tok (t := [93]) hs (by simp) (sym_next (by decide) (by decide) (by decide) (by decide) (by decide) (by decide) (fun h => absurd h (by decide)))
  rw [if_neg e5, if_neg e5]
  have c62 : Scn (62 :: X) ((5, [62]) :: ks) := sc_tok (t := [62]) hs (by simp) (sym_next (by decide) (by decide) (by decide) (by decide) (by decide) (by decide) (fun h => absurd h (by decide)))
  have h62 : HX (62 :: X) := fun c r e => by injection e with e _; exact .inr (.inr (.inl e.symm))
  by_cases e6 : op = 6
  ·subst e6
   rw [if_pos rfl, if_pos rfl]
   simp only [List.cons_append, List.append_assoc, List.nil_append]
   refine sc_tok (t := [60]) ?_ (by simp) (sym_next (by decide) (by decide) (by decide) (by decide) (by decide) (by decide) (fun _ => head_close kids _ _ _ hk X))
   exact sc_L kids _ hk _ _ _ _ (.inr ⟨gs_comma, gs_comma⟩) h62 c62
  rw [if_neg e6, if_neg e6]
  by_cases e7 : op = 7
  ·subst e7
   rw [if_pos rfl, if_pos rfl]
   simp only [List.cons_append, List.append_assoc, List.nil_append]
   refine sc_tok (t := [60]) ?_ (by simp) (sym_next (by decide) (by decide) (by decide) (by decide) (by decide) (by decide) (fun _ => head_close kids _ _ _ hk X))
   exact sc_L kids _ hk _ _ _ _ (.inr ⟨gs_comma, gs_bar⟩) h62 c62
  rw [if_neg e7, if_neg e7]
  have cl : Scn (33 :: 62 :: X) ((5, [33, 62]) :: ks) := sc_tok (t := [33, 62]) hs (by simp) (sym_close X)
  split
  ·rename_i h0
   have : kids = [] := List.eq_nil_of_length_eq_zero h0
   subst this
   rw [tkL]
   exact sc_tok (t := [60, 33]) (sc_space cl) (by simp) (sym_open _)
  ·simp only [List.cons_append, List.append_assoc, List.nil_append]
   refine sc_tok (t := [60, 33]) (sc_space ?_) (by simp) (sym_open _)
   exact sc_L kids _ hk _ _ _ _ (.inr ⟨gs_comma, gs_comma⟩) (fun c r e => by injection e with e _; exact .inl e.symm) (sc_space cl)
theorem sc_L : ∀ (l : List Ds) (lv : Nat), checkL l lv = 0 → ∀ (sep last : List UInt8) (ksep klast : List KT), (l.length ≤ 1 ∨ (Gs sep ksep ∧ Gs last klast)) → ∀ {X : List UInt8} {ks : List KT}, HX X → Scn X ks → Scn (wrL sep last l ++ X) (tkL ksep klast l ++ ks)
 | [], lv, _, _, _, _, _, _, X, ks, _, hs => by rw [wrL, tkL]; exact hs
 | d :: r, lv, h, sep, last, ksep, klast, hg, X, ks, hx, hs => by
  obtain ⟨h1, h2⟩ := checkL_cons h
  rw [wrL, tkL, List.append_assoc, List.append_assoc, List.append_assoc, List.append_assoc]
  cases r with
  | nil =>
   rw [wrL, tkL]
   exact sc_D d lv h1 hx hs
  | cons d2 r2 =>
   have hg' : Gs sep ksep ∧ Gs last klast := by
    rcases hg with hg | hg
    ·simp at hg
    ·exact hg
   have ih := sc_L (d2 :: r2) lv h2 sep last ksep klast (.inr hg') hx hs
   cases r2 with
   | nil => exact sc_D d lv h1 (hg'.2.2 _) (hg'.2.1 _ _ ih)
   | cons d3 r3 => exact sc_D d lv h1 (hg'.1.2 _) (hg'.1.1 _ _ ih)
end
theorem scan_wr (d : Ds) (lv : Nat) (h : checkE d lv = 0) : scanS (wrD d) 1 = .ok ((tkD d).map fun q => ⟨q.1, q.2, 1⟩) := by
 have := sc_D d lv h HX.nil sc_nil
 rw [List.append_nil, List.append_nil] at this
 exact this 1 _ (Nat.lt_succ_self _)
end Go.Proofs.YtjkkgbdoeaihmaaGreatDoor
