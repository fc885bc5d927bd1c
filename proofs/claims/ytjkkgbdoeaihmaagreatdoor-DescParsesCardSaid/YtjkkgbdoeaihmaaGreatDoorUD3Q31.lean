/-
 Auxiliary facts. No statement of the program stands here.
-/
import Derived.Test.YtjkkgbdoeaihmaaGreatDoorUD3Q29
import Derived.Test.YtjkkgbdoeaihmaaGreatDoorUD3Q30
import Derived.Test.YtjkkgbdoeaihmaaGreatDoorUD3Q24
import Derived.Test.YtjkkgbdoeaihmaaGreatDoorUD3Q13
import Derived.Test.YtjkkgbdoeaihmaaGreatDoorUD3Q14
import Derived.Test.YtjkkgbdoeaihmaaGreatDoorUD3Q15
import Derived.Test.YtjkkgbdoeaihmaaGreatDoorUD3Q25
import Derived.Test.YtjkkgbdoeaihmaaGreatDoorUD3Q19
namespace Go.Proofs.YtjkkgbdoeaihmaaGreatDoor
set_option linter.unusedSimpArgs false
set_option linter.unusedVariables false
open Go Go.Abs
variable {q : Gl}
noncomputable def D2t (ts : List T) : Option T := g2 (tSl eTok) tInt (fun l i => if l.length <= 1000000 /\ 0 <= i /\ i <= (l.length : Int) then some (A3m (desS (l.map kt) 64 i.toNat)) else none) ts
theorem E1b {t : T} {l : List Tok} (h : IsS eTok t l) (hl : l.length <= 1000000) {i : Nat} (hi : i <= l.length) : D2t [t, iv (i : Int)] = some (A3m (desS (l.map kt) 64 i)) := by
 show g2 _ _ _ _ = _
 rw [A8v (τ := tSl eTok) (σ := tInt) (x := l) (y := (i : Int)) h rfl, if_pos ⟨hl, by omega, by omega⟩, Int.toNat_natCast]
theorem hRead : GOK Tryz.prog (G q) 17 D2t := A8i fun a b x y r ha hb hr => by
 split at hr
 ·rename_i hc
  injection hr with hr; subst hr
  cases hb
  obtain ⟨n, rfl⟩ := Int.eq_ofNat_of_zero_le hc.2.1
  exact E4c ha hc.1 (by omega)
 ·cases hr
theorem E6p : GOK Tryz.prog (G q) 18 D2t := A8i fun a b x y r ha hb hr => by
 split at hr
 ·rename_i hc
  injection hr with hr; subst hr
  cases hb
  obtain ⟨n, rfl⟩ := Int.eq_ofNat_of_zero_le hc.2.1
  exact E0x ha hc.1 (by omega)
 ·cases hr
def C7t (ts : List T) : Option T := match ts with
 | [.v (.string s)] => if s.size <= 1000000 then some (B1k s.data.toList) else none
 | _ => none
theorem hScan : GOK Tryz.prog (G q) 36 C7t := fun args r h => by
 unfold C7t at h
 split at h
 ·split at h
  ·injection h with h; subst h; exact D6w _ (by unfold lim; omega)
  ·cases h
 ·cases h
theorem E6q : GOK Tryz.prog (G q) 16 C7t := fun args r h => by
 unfold C7t at h
 split at h
 ·split at h
  ·injection h with h; subst h; exact D2s _ (by unfold lim; omega)
  ·cases h
 ·cases h
def D7f (s : List UInt8) : Except Int (List Tok) := if 65536 < s.length then .error 7 else match B5f s 1 with
 | .error x => .error x.2
 | .ok ts => .ok ts
def parS (s : List UInt8) : Except Int Ds := match D7f s with
 | .error e => .error e
 | .ok ts => match desS (ts.map kt) 64 0 with
  | .error e => .error e
  | .ok (d, n) => if n < ts.length then .error 8 else .ok d
def parT : Except Int Ds -> T
 | .ok d => .tu [dT d, iv 0]
 | .error e => .tu [dT zDs, iv e]
theorem D7g (s : List UInt8) : match D7f s with
  | .error e => e ≠ 0 /\ ∃ k : Int, B1k s = .tu [nilS, iv k, iv e]
  | .ok ts => B1k s = .tu [A2h eTok ts, iv 0, iv 0] /\ ts.length <= 65536 := by
 unfold D7f B1k
 by_cases h : 65536 < s.length
 ·rw [if_pos h, if_pos h]
  exact ⟨by omega, 0, rfl⟩
 ·rw [if_neg h, if_neg h]
  cases hs : B5f s 1 with
  | error x => exact ⟨(C5g _ _ _ _ hs).2, x.1, rfl⟩
  | ok ts => exact ⟨rfl, by have := D7e hs; omega⟩
theorem C5h {R : T -> Prop} {env : List (Nat × PV)} {H : Heap} {nx n a b ty : Nat} {d : Ds} {e : Int} (h6 : Abs.look env a = some (.ptr 0 0)) (hl : Abs.look H 0 = some (.cells ty ((encD d).map .t))) (h7 : Abs.look env b = some (.t (iv e)))
  (hR : R (.tu [dT d, iv e])) : B2a [RV.cell a true 4, RV.tmp b] R .ret ⟨env, H, nx, n⟩ := by
 have hd := ld_d hl
 refine C1b (ps := [.t (dT d), .t (iv e)]) (r := .tu [dT d, iv e]) (F := []) ?_ rfl hR
 simp only [resM, h6, h7, hd]
 try rfl
theorem E6r (X : Row) (d : Ds) : A1b 4 [(1, X), (0, zD)] (.ptr 0 0) (.t (dT d)) = some [(1, X), (0, .cells 25 ((encD d).map .t))] := by
 cases d; rw [dT, encD]; rfl
theorem C0h {F : FuncId} {M : A0p} {fs fr : Nat} (hM : M = A4q /\ fs = 36 /\ fr = 17 \/ M = A5n /\ fs = 16 /\ fr = 18) (k : FnOK Tryz.prog (G q) F 1 35 M [(.cell 2 true 4), (.tmp 3)]) (c1 : GOK Tryz.prog (G q) fs C7t) (c2 : GOK Tryz.prog (G q) fr D2t) (s : ByteArray) (hs : s.size <= 1000000) :
  A1k Tryz.prog (G q) F [sv s] (· = parT (parS s.data.toList)) := by
 have C : Ctx Tryz.prog (G q) (orc [(fs, C7t), (fr, D2t)]) := (A0z.cons c1 (.cons c2 .nil)).ctx mixed
 have hg : C7t [sv s] = some (B1k s.data.toList) := if_pos hs
 have ht := D7g s.data.toList
 obtain ⟨R, hR⟩ : ∃ R, R = parS s.data.toList := ⟨_, rfl⟩
 rw [<- hR]
 unfold parS at hR
 refine k.call rfl ?_
 cases hts : D7f s.data.toList with
 | error e =>
  rw [hts] at ht hR
  obtain ⟨he, k0, hk⟩ := ht
  rw [hk] at hg
  simp only at hR
  rw [hR]
  have hb : (e != 0) = true := by simpa using he
  rcases hM with ⟨rfl, rfl, rfl⟩ | ⟨rfl, rfl, rfl⟩
  ·refine A0c C ?_
   simp -implicitDefEqProofs [A4q, hg, hb, -evalK_build, bdZ, C0e, -endsM_ret]
   exact C5h (d := zDs) (ty := 25) rfl rfl rfl rfl
  ·refine A0c C ?_
   simp -implicitDefEqProofs [A5n, hg, hb, -evalK_build, bdZ, C0e, -endsM_ret]
   exact C5h (d := zDs) (ty := 25) rfl rfl rfl rfl
 | ok ts =>
  rw [hts] at ht hR
  obtain ⟨hk, hn⟩ := ht
  rw [hk] at hg
  have hrd : D2t [A2h eTok ts, iv 0] = some (A3m (desS (ts.map kt) 64 0)) := E1b (i := 0) (IsS.tree eTok ts) (by omega) (by omega)
  have hlen : A2f (.t (A2h eTok ts)) = some (.t (iv (ts.length : Int))) := (IsS.tree eTok ts).len
  simp only at hR
  generalize htree : A2h eTok ts = tt at hg hrd hlen
  cases hd : desS (ts.map kt) 64 0 with
  | error e =>
   rw [hd] at hrd hR
   simp only [A3m] at hrd hR
   have he : e ≠ 0 := A8a _ _ _ hd
   have hb : (e != 0) = true := by simpa using he
   rw [hR]
   have st1 := C7s [(0, zD)] zDs
   have st0 : ∀ X : Row, A1b 4 [(1, X), (0, zD)] (.ptr 0 0) (.t (dT zDs)) = some [(1, X), (0, .cells 25 ((encD zDs).map .t))] := fun X => E6r X zDs
   rcases hM with ⟨rfl, rfl, rfl⟩ | ⟨rfl, rfl, rfl⟩
   ·refine A0c C ?_
    simp -implicitDefEqProofs [A4q, hg, hrd, hb, -evalK_build, bdZ, st1, st0, -endsM_ret]
    exact C5h (d := zDs) (ty := 25) rfl rfl rfl rfl
   ·refine A0c C ?_
    simp -implicitDefEqProofs [A5n, hg, hrd, hb, -evalK_build, bdZ, st1, st0, -endsM_ret]
    exact C5h (d := zDs) (ty := 25) rfl rfl rfl rfl
  | ok y =>
   obtain ⟨d, n⟩ := y
   rw [hd] at hrd hR
   simp only [A3m] at hrd hR
   have st1 := C7s [(0, zD)] d
   have st0 : ∀ (X : Row) (d' : Ds), A1b 4 [(1, X), (0, zD)] (.ptr 0 0) (.t (dT d')) = some [(1, X), (0, .cells 25 ((encD d').map .t))] := E6r
   have ld : A0s true 4 [(1, .cells 25 ((encD d).map PV.t)), (0, zD)] (.ptr 1 0) = some (.t (dT d)) := ld_d rfl
   by_cases hlt : n < ts.length
   ·rw [if_pos hlt] at hR
    rw [hR]
    have hc : decide ((n : Int) < (ts.length : Int)) = true := by simpa using hlt
    rcases hM with ⟨rfl, rfl, rfl⟩ | ⟨rfl, rfl, rfl⟩
    ·refine A0c C ?_
     simp -implicitDefEqProofs [A4q, hg, hrd, hlen, hlt, -evalK_build, bdZ, st1, st0, -endsM_ret]
     exact C5h (d := zDs) (ty := 25) rfl rfl rfl rfl
    ·refine A0c C ?_
     simp -implicitDefEqProofs [A5n, hg, hrd, hlen, hlt, -evalK_build, bdZ, st1, st0, -endsM_ret]
     exact C5h (d := zDs) (ty := 25) rfl rfl rfl rfl
   ·rw [if_neg hlt] at hR
    rw [hR]
    rcases hM with ⟨rfl, rfl, rfl⟩ | ⟨rfl, rfl, rfl⟩
    ·refine A0c C ?_
     simp -implicitDefEqProofs [A4q, hg, hrd, hlen, hlt, -evalK_build, bdZ, st1, st0, ld, -endsM_ret]
     exact C5h (d := d) (ty := 25) rfl rfl rfl rfl
    ·refine A0c C ?_
     simp -implicitDefEqProofs [A5n, hg, hrd, hlen, hlt, -evalK_build, bdZ, st1, st0, ld, -endsM_ret]
     exact C5h (d := d) (ty := 25) rfl rfl rfl rfl
def B0a (ts : List T) : Option T := match ts with
 | [.v (.string s)] => if s.size <= 1000000 then some (parT (parS s.data.toList)) else none
 | _ => none
theorem B3a {s : ByteArray} (h : s.size <= 1000000) : B0a [sv s] = some (parT (parS s.data.toList)) := if_pos h
theorem E2e : GOK Tryz.prog (G q) 20 B0a := fun args r h => by
 unfold B0a at h
 split at h
 ·split at h
  ·injection h with h; subst h; exact C0h (.inl ⟨rfl, rfl, rfl⟩) C3r hScan hRead _ (by assumption)
  ·cases h
 ·cases h
theorem E4h : GOK Tryz.prog (G q) 21 B0a := fun args r h => by
 unfold B0a at h
 split at h
 ·split at h
  ·injection h with h; subst h; exact C0h (.inr ⟨rfl, rfl, rfl⟩) C6m E6q E6p _ (by assumption)
  ·cases h
 ·cases h
def A8m (op : Int) : Bool := decide (op = 1) || decide (op = 2) || decide (op = 3)
def B0b (op : Int) (kids : List Ds) : Bool :=
 if A8m op then decide (kids.length = 0)
 else if op = 5 then decide (kids.length = 1)
 else if op = 7 then decide (2 <= kids.length)
 else if op = 4 then decide (2 <= kids.length) && !(kids.any fun k => decide (k.op = 4))
 else true
def B8p (op : Int) (name : ByteArray) (path : List ByteArray) (kids : List Ds) : Bool :=
 (if A8m op then A0r false name else decide (name.size = 0)) && (decide (op = 5) == decide (0 < path.length)) && path.all (A0r true) && B0b op kids
def A9a (op : Int) (name : ByteArray) (path : List ByteArray) (kids : List Ds) : Int :=
 if op < 1 \/ 8 < op then 14 else if B8p op name path kids then 0 else 1
mutual
def A1g : Ds -> Nat -> Int
 | .mk op name path kids, lv => if 64 < lv \/ 64 < path.length \/ 256 < kids.length then 7 else if A9a op name path kids ≠ 0 then A9a op name path kids
  else A5j kids (if op = 4 then lv else lv + 1)
def A5j : List Ds -> Nat -> Int
 | [], _ => 0
 | d :: r, lv => if A1g d lv ≠ 0 then A1g d lv else A5j r lv
end
inductive Small : Ds -> Prop where
 | mk (op : Int) (name : ByteArray) (path : List ByteArray) (kids : List Ds) : name.size <= 60 -> path.length <= 80 -> (∀ s ∈ path, s.size <= 60) -> kids.length <= 400 -> (∀ k ∈ kids, Small k) -> Small (.mk op name path kids)
mutual
def A6h : Ds -> Nat
 | .mk _ _ _ kids => A6i kids + 1
def A6i : List Ds -> Nat
 | [] => 0
 | d :: r => A6h d + A6i r
end
abbrev dRow (op : Int) (name : ByteArray) (tp tk : T) : Row := .cells 25 [.t (iv op), .t (sv name), .t tp, .t tk]
theorem B7p (op : Int) (name : ByteArray) (tp tk : T) : A2r (.t (.ag [iv op, sv name, tp, tk])) = some [.t (iv op), .t (sv name), .t tp, .t tk] := rfl
section
variable (H R : Heap) (op : Int) (name : ByteArray) (tp tk : T)
theorem dl0 : A0s false 1 ((0, dRow op name tp tk) :: R) (.ptr 0 0) = some (.t (iv op)) := rfl
theorem dl1 : A0s false 1 ((0, dRow op name tp tk) :: R) (.ptr 0 1) = some (.t (sv name)) := rfl
theorem dl2 : A0s false 1 ((0, dRow op name tp tk) :: R) (.ptr 0 2) = some (.t tp) := rfl
theorem dl3 : A0s false 1 ((0, dRow op name tp tk) :: R) (.ptr 0 3) = some (.t tk) := rfl
theorem dl4 : A0s true 4 ((0, dRow op name tp tk) :: R) (.ptr 0 0) = some (.t (.ag [iv op, sv name, tp, tk])) := rfl
end
theorem lh1 (H : Heap) (a : T) (r : List T) : A0s false 1 H (.t (.pt (a :: r))) = some (.t a) := rfl
theorem E6s {tp : T} {path : List ByteArray} (h : IsS eStr tp path) {i : Nat} {s : ByteArray} (hx : path[i]? = some s) : ∃ r, A4v 1 (.t tp) (.t (.v (.int .i64 (i : Int)))) = some (.t (.pt (sv s :: r))) := ⟨_, h.iaddr hx .i64⟩
theorem C0i {tk : T} {kids : List Ds} (h : IsK tk kids) {i : Nat} {x : Ds} (hx : kids[i]? = some x) : ∃ p c, A4v 4 (.t tk) (.t (.v (.int .i64 (i : Int)))) = some (.t (.pt p)) /\ (∀ H, A0s true 4 H (.t (.pt p)) = some (.t (.ag c))) /\ Abs.IsD x c := by
 obtain ⟨ci, r, h1, h2⟩ := h.iaddr hx .i64
 refine ⟨_, ci, h1, fun H => ?_, h2⟩
 have := h2.len
 simp only [A0s, List.length_append, this, if_true]
 rw [if_pos (by omega), show (4 : Nat) = ci.length by omega, List.take_left]
def SSm (n : Nat) (t u : T) (j : Nat) : A0b := ⟨[(5, .t (iv (j : Int))), (1, .t u), (0, .t t)], [], 0, n⟩
def SSmE (n : Nat) (t u : T) : A0b := ⟨[(1, .t u), (0, .t t)], [], 0, n⟩
theorem A2e : Ctx Tryz.prog (G q) (orc []) := A0z.nil.ctx mixed
theorem D7h {t u : T} {l : List ByteArray} (ht : IsS eStr t l) (hu : IsS eStr u l) (hb : l.length <= 9223372036854775806) : A1k Tryz.prog (G q) 26 [t, u] (· = bv true) := by
 refine D1o.call rfl ?_
 unfold B9l
 have l1 := ht.len
 have l2 := hu.len
 refine A0a A2e ?_
 simp -implicitDefEqProofs
 refine A0a A2e ?_
 simp -implicitDefEqProofs [l1, l2]
 refine A2g (α := Unit) (fun _ => SSmE 26 t u) (fun _ => True) (fun _ => rfl) ?_ ?_
 ·refine A0a A2e ?_
  simp -implicitDefEqProofs
  refine A0w ?_
  refine D4p (SSm 26 t u) l.length (fun _ => rfl) ?_ rfl ?_ ?_
  ·refine A0e rfl rfl ?_ ?_ <;> simp -implicitDefEqProofs [SSm]
  ·intro j hj
   refine A0c A2e ?_
   obtain ⟨x, hx⟩ : ∃ x, l[j]? = some x := ⟨_, List.getElem?_eq_getElem hj⟩
   have i1 : A4v 1 (.t t) (.t (iv (j : Int))) = some (.t (.pt (eStr.enc x ++ rest eStr l j))) := ht.iaddr hx .i64
   have i2 : A4v 1 (.t u) (.t (iv (j : Int))) = some (.t (.pt (eStr.enc x ++ rest eStr l j))) := hu.iaddr hx .i64
   have ld : A0s false 1 [] (.t (.pt (eStr.enc x ++ rest eStr l j))) = some (.t (sv x)) := rfl
   have e1 : IntKind.i64.wrap ((j : Int) + 1) = ((j + 1 : Nat) : Int) := A1a (by omega) (by omega)
   simp -implicitDefEqProofs [SSm, l1, hj, i1, i2, ld, e1]
   refine A0e rfl rfl ?_ ?_ <;> simp -implicitDefEqProofs
  ·refine A0c A2e ?_
   simp -implicitDefEqProofs [SSm, l1]
   exact Abs.Next.mk () trivial (A0e rfl rfl (by simp -implicitDefEqProofs [SSmE]) (by simp -implicitDefEqProofs [SSmE]))
 ·rintro _ _
  refine A0c A2e ?_
  simp -implicitDefEqProofs [SSmE]
noncomputable def E1c (ts : List T) : Option T := g2 (tSl eStr) (tSl eStr) (fun a b => open Classical in if a = b /\ a.length <= 9223372036854775806 then some (bv true) else none) ts
theorem E6t : GOK Tryz.prog (G q) 26 E1c :=
 A8i fun a b x y r ha hb hr => by
  split at hr
  ·rename_i hc
   obtain ⟨rfl, hl⟩ := hc
   injection hr with hr; subst hr
   exact D7h ha hb hl
  ·cases hr
theorem D0b {t u : T} {l : List ByteArray} (ht : IsS eStr t l) (hu : IsS eStr u l) (hl : l.length <= 9223372036854775806) : E1c [t, u] = some (bv true) := by
 show g2 _ _ _ _ = _
 rw [A8v (τ := tSl eStr) (σ := tSl eStr) ht hu, if_pos ⟨rfl, hl⟩]
inductive Fine : Ds -> Prop where
 | mk (op : Int) (name : ByteArray) (path : List ByteArray) (kids : List Ds) : path.length <= 1000 -> kids.length <= 1000 -> (∀ k ∈ kids, Fine k) -> Fine (.mk op name path kids)
theorem Fine.parts {op : Int} {name : ByteArray} {path : List ByteArray} {kids : List Ds} (h : Fine (.mk op name path kids)) : path.length <= 1000 /\ kids.length <= 1000 /\ ∀ k ∈ kids, Fine k := by
 cases h with
 | mk _ _ _ _ h1 h2 h3 => exact ⟨h1, h2, h3⟩
noncomputable def gSd (m : Nat) (ts : List T) : Option T := g2 tD tD (fun a b => open Classical in if a = b /\ Fine a /\ a.depth <= m then some (bv true) else none) ts
noncomputable def gSds (m : Nat) (ts : List T) : Option T := g2 tK tK (fun a b => open Classical in if a = b /\ a.length <= 1000 /\ (∀ k ∈ a, Fine k) /\ B6x a <= m then some (bv true) else none) ts
theorem E2f {m : Nat} {c c' : List T} {d : Ds} (h : Abs.IsD d c) (h' : Abs.IsD d c') (hf : Fine d) (hd : d.depth <= m) : gSd m [.ag c, .ag c'] = some (bv true) := by
 show g2 _ _ _ _ = _
 rw [A8v (τ := tD) (σ := tD) ⟨c, rfl, h⟩ ⟨c', rfl, h'⟩, if_pos ⟨rfl, hf, hd⟩]
theorem E4i {m : Nat} {t u : T} {l : List Ds} (h : IsK t l) (h' : IsK u l) (hl : l.length <= 1000) (hf : ∀ k ∈ l, Fine k) (hd : B6x l <= m) : gSds m [t, u] = some (bv true) := by
 show g2 _ _ _ _ = _
 rw [A8v (τ := tK) (σ := tK) h h', if_pos ⟨rfl, hl, hf, hd⟩]
theorem D2u {m : Nat} (hrec : GOK Tryz.prog (G q) 19 (gSd m)) {t u : T} {l : List Ds} (h : IsK t l) (h' : IsK u l) (hl : l.length <= 1000) (hf : ∀ k ∈ l, Fine k) (hd : B6x l <= m) :
  A1k Tryz.prog (G q) 27 [t, u] (· = bv true) := by
 have C := (A0z.cons hrec .nil).ctx mixed
 refine B6m.call rfl ?_
 unfold A9o
 have l1 := h.len
 have l2 := h'.len
 refine A0a C ?_
 simp -implicitDefEqProofs
 refine A0a C ?_
 simp -implicitDefEqProofs [l1, l2]
 refine A2g (α := Unit) (fun _ => SSmE 27 t u) (fun _ => True) (fun _ => rfl) ?_ ?_
 ·refine A0a C ?_
  simp -implicitDefEqProofs
  refine A0w ?_
  refine D4p (SSm 27 t u) l.length (fun _ => rfl) ?_ rfl ?_ ?_
  ·refine A0e rfl rfl ?_ ?_ <;> simp -implicitDefEqProofs [SSm]
  ·intro j hj
   refine A0c C ?_
   obtain ⟨x, hx⟩ : ∃ x, l[j]? = some x := ⟨_, List.getElem?_eq_getElem hj⟩
   obtain ⟨p, c, i1, ld1, hc⟩ := C0i h hx
   obtain ⟨p', c', i2, ld2, hc'⟩ := C0i h' hx
   have hmem := List.mem_of_getElem? hx
   have hg := E2f hc hc' (hf x hmem) (Nat.le_trans (B6y hmem) hd)
   have e1 : IntKind.i64.wrap ((j : Int) + 1) = ((j + 1 : Nat) : Int) := A1a (by omega) (by omega)
   simp -implicitDefEqProofs [SSm, l1, hj, i1, i2, ld1, ld2, hg, e1]
   refine A0e rfl rfl ?_ ?_ <;> simp -implicitDefEqProofs
  ·refine A0c C ?_
   simp -implicitDefEqProofs [SSm, l1]
   exact Abs.Next.mk () trivial (A0e rfl rfl (by simp -implicitDefEqProofs [SSmE]) (by simp -implicitDefEqProofs [SSmE]))
 ·rintro _ _
  refine A0c C ?_
  simp -implicitDefEqProofs [SSmE]
section
variable (R : Heap) (X : Row) (op : Int) (name : ByteArray) (tp tk : T)
theorem el0 : A0s false 1 ((1, dRow op name tp tk) :: R) (.ptr 1 0) = some (.t (iv op)) := rfl
theorem el1 : A0s false 1 ((1, dRow op name tp tk) :: R) (.ptr 1 1) = some (.t (sv name)) := rfl
theorem el2 : A0s false 1 ((1, dRow op name tp tk) :: R) (.ptr 1 2) = some (.t tp) := rfl
theorem el3 : A0s false 1 ((1, dRow op name tp tk) :: R) (.ptr 1 3) = some (.t tk) := rfl
theorem fl0 : A0s false 1 ((1, X) :: (0, dRow op name tp tk) :: R) (.ptr 0 0) = some (.t (iv op)) := rfl
theorem fl1 : A0s false 1 ((1, X) :: (0, dRow op name tp tk) :: R) (.ptr 0 1) = some (.t (sv name)) := rfl
theorem fl2 : A0s false 1 ((1, X) :: (0, dRow op name tp tk) :: R) (.ptr 0 2) = some (.t tp) := rfl
theorem fl3 : A0s false 1 ((1, X) :: (0, dRow op name tp tk) :: R) (.ptr 0 3) = some (.t tk) := rfl
end
theorem D2v {m : Nat} (hrec : GOK Tryz.prog (G q) 27 (gSds m)) {c c' : List T} {d : Ds} (h : Abs.IsD d c) (h' : Abs.IsD d c') (hf : Fine d) (hd : d.depth <= m + 1) :
  A1k Tryz.prog (G q) 19 [.ag c, .ag c'] (· = bv true) := by
 cases d with
 | mk op name path kids =>
 obtain ⟨tp, tk, rfl, hp, hk⟩ := h.parts
 obtain ⟨tp', tk', rfl, hp', hk'⟩ := h'.parts
 obtain ⟨f1, f2, f3⟩ := hf.parts
 rw [Ds.depth] at hd
 have C := (A0z.cons hrec (.cons E6t .nil)).ctx mixed
 have g1 := D0b hp hp' (by omega)
 have g2 := E4i (m := m) hk hk' f2 f3 (by omega)
 refine B8g.call rfl ?_
 refine A0c C ?_
 simp -implicitDefEqProofs [B0p, B7p, fl0, fl1, fl2, fl3, el0, el1, el2, el3, g1, g2]
theorem D7i (m : Nat) (hrec : GOK Tryz.prog (G q) 19 (gSd m)) : GOK Tryz.prog (G q) 27 (gSds m) :=
 A8i fun a b x y r ha hb hr => by
  split at hr
  ·rename_i hc
   obtain ⟨rfl, h1, h2, h3⟩ := hc
   injection hr with hr; subst hr
   exact D2u hrec ha hb h1 h2 h3
  ·cases hr
theorem hSd : ∀ m, GOK Tryz.prog (G q) 19 (gSd m)
 | 0 => A8i fun a b x y r ha hb hr => by
  split at hr
  ·rename_i hc
   obtain ⟨rfl, h1, h2⟩ := hc
   cases x with
   | mk _ _ _ _ => rw [Ds.depth] at h2; omega
  ·cases hr
 | m + 1 => A8i fun a b x y r ha hb hr => by
  split at hr
  ·rename_i hc
   obtain ⟨rfl, h1, h2⟩ := hc
   injection hr with hr; subst hr
   obtain ⟨c, rfl, hcx⟩ := ha
   obtain ⟨c', rfl, hcx'⟩ := hb
   exact D2v (D7i m (hSd m)) hcx hcx' h1 h2
  ·cases hr
inductive A8b : Ds -> Prop where
 | mk (op : Int) (name : ByteArray) (path : List ByteArray) (kids : List Ds) : name.size <= 1000000 -> path.length <= 1000 -> (∀ s ∈ path, s.size <= 1000000) -> kids.length <= 1000 -> (∀ k ∈ kids, A8b k) -> A8b (.mk op name path kids)
theorem A8b.parts {op : Int} {name : ByteArray} {path : List ByteArray} {kids : List Ds} (h : A8b (.mk op name path kids)) : name.size <= 1000000 /\ path.length <= 1000 /\ (∀ s ∈ path, s.size <= 1000000) /\ kids.length <= 1000 /\ ∀ k ∈ kids, A8b k := by
 cases h with
 | mk _ _ _ _ h1 h2 h3 h4 h5 => exact ⟨h1, h2, h3, h4, h5⟩
theorem Small.sized : ∀ {d : Ds}, Small d -> A8b d := fun h => by
 induction h with
 | mk op name path kids h1 h2 h3 h4 h5 ih => exact .mk op name path kids (by omega) (by omega) (fun s hs => by have := h3 s hs; omega) (by omega) ih
def A3r : List ByteArray -> List UInt8
 | [] => []
 | s :: r => s.data.toList ++ (match r with | [] => [] | _ :: _ => 46 :: A3r r)
def B7q {α β : Type} (sep last : List α) (r : List β) : List α := match r with
 | [] => []
 | [_] => last
 | _ :: _ :: _ => sep
mutual
def wrD : Ds -> List UInt8
 | .mk op name path kids =>
  if op = 1 then name.data.toList
  else if op = 2 then 64 :: name.data.toList
  else if op = 3 then 35 :: name.data.toList
  else if op = 4 then wrL [32, 38, 32] [32, 38, 32] kids
  else if op = 5 then 91 :: (A3r path ++ 32 :: (wrL [] [] kids ++ [93]))
  else if op = 6 then 60 :: (wrL [44, 32] [44, 32] kids ++ [62])
  else if op = 7 then 60 :: (wrL [44, 32] [32, 124, 32] kids ++ [62])
  else if kids.length = 0 then [60, 33, 32, 33, 62]
  else 60 :: 33 :: 32 :: (wrL [44, 32] [44, 32] kids ++ [32, 33, 62])
def wrL (sep last : List UInt8) : List Ds -> List UInt8
 | [] => []
 | d :: r => wrD d ++ (B7q sep last r ++ wrL sep last r)
end
theorem C7u {big : Bool} {s : ByteArray} (h : A0r big s = true) : ∃ c r, s.data.toList = c :: r /\ s.size <= 32 /\ A1f c = false /\ c.toNat ≠ 45 /\ (c :: r).all (A2i big) = true := by
 unfold A0r at h
 split at h
 ·cases h
 ·rename_i c r hs
  simp only [Bool.and_eq_true, Bool.not_eq_true', decide_eq_true_eq, decide_eq_false_iff_not] at h
  exact ⟨c, r, hs, h.1.1.1, h.1.1.2, h.1.2, h.2⟩
theorem C7v {op : Int} {name : ByteArray} {path : List ByteArray} {kids : List Ds} {lv : Nat} (h : A1g (.mk op name path kids) lv = 0) :
  lv <= 64 /\ path.length <= 64 /\ kids.length <= 256 /\ 1 <= op /\ op <= 8 /\ B8p op name path kids = true /\ A5j kids (if op = 4 then lv else lv + 1) = 0 := by
 rw [A1g] at h
 split at h
 ·cases h
 ·rename_i h1
  split at h
  ·rename_i h2; exact absurd h h2
  ·rename_i h2
   have h2' : A9a op name path kids = 0 := by simpa using h2
   unfold A9a at h2'
   split at h2'
   ·cases h2'
   ·rename_i h3
    split at h2'
    ·rename_i h4
     refine ⟨by omega, by omega, by omega, by omega, by omega, h4, h⟩
    ·cases h2'
theorem C7w {d : Ds} {r : List Ds} {lv : Nat} (h : A5j (d :: r) lv = 0) : A1g d lv = 0 /\ A5j r lv = 0 := by
 rw [A5j] at h
 split at h
 ·rename_i h1; exact absurd h h1
 ·rename_i h1; exact ⟨by simpa using h1, h⟩
theorem D2w {op : Int} {name : ByteArray} {path : List ByteArray} {kids : List Ds} (h : B8p op name path kids = true) :
  (if A8m op then A0r false name = true else name.size = 0) /\ (op = 5 ↔ 0 < path.length) /\ path.all (A0r true) = true /\ B0b op kids = true := by
 unfold B8p at h
 simp only [Bool.and_eq_true, beq_iff_eq, decide_eq_decide] at h
 obtain ⟨⟨⟨h1, h2⟩, h3⟩, h4⟩ := h
 refine ⟨?_, h2, h3, h4⟩
 split at h1
 ·rename_i h5; rw [if_pos h5]; exact h1
 ·rename_i h5; rw [if_neg h5]; simpa using h1
section
variable {l : List KT}
theorem B7r : ∀ {r : List Ds} {lv : Nat}, (∀ k ∈ r, A1g k lv = 0) -> A5j r lv = 0
 | [], lv, _ => by rw [A5j]
 | d :: r, lv, h => by
  rw [A5j, if_neg (by simpa using h d (by simp))]
  exact B7r fun k hk => h k (by simp [hk])
end
def gRn (ts : List T) : Option T := match ts with
 | [.v (.string s)] => if s.size <= lim then some (bv (A0r false s)) else none
 | _ => none
def gRf (ts : List T) : Option T := match ts with
 | [.v (.string s)] => if s.size <= lim then some (bv (A0r true s)) else none
 | _ => none
theorem hRn : GOK Tryz.prog (G q) 77 gRn := fun args r h => by
 unfold gRn at h
 split at h
 ·split at h
  ·injection h with h; subst h; exact D2b _ (by assumption)
  ·cases h
 ·cases h
theorem hRf : GOK Tryz.prog (G q) 78 gRf := fun args r h => by
 unfold gRf at h
 split at h
 ·split at h
  ·injection h with h; subst h; exact C1j _ (by assumption)
  ·cases h
 ·cases h
theorem B7s {b : Bool} {s : ByteArray} (h : s.size = 0) : A0r b s = false := by
 unfold A0r
 split
 ·rfl
 ·rename_i c r e
  have h2 : s.data.toList.length = s.size := rfl
  rw [e, h] at h2
  simp at h2
noncomputable def gCh (m : Nat) (ts : List T) : Option T := g2 tD tInt (fun d lv => open Classical in if A8b d /\ d.depth <= m /\ 0 <= lv /\ lv <= 65 then some (iv (A1g d lv.toNat)) else none) ts
theorem E2g {m : Nat} {c : List T} {d : Ds} (h : Abs.IsD d c) (hs : A8b d) (hd : d.depth <= m) {lv : Nat} (hl : lv <= 65) : gCh m [.ag c, iv (lv : Int)] = some (iv (A1g d lv)) := by
 show g2 _ _ _ _ = _
 rw [A8v (τ := tD) (σ := tInt) (x := d) (y := (lv : Int)) ⟨c, rfl, h⟩ rfl, if_pos ⟨hs, hd, by omega, by omega⟩, Int.toNat_natCast]
noncomputable def D0c (ts : List T) : Option T := g1 tD (fun d => open Classical in if A8b d then some (iv (A1g d 1)) else none) ts
theorem C5i {c : List T} {d : Ds} (h : Abs.IsD d c) (hs : A8b d) : D0c [.ag c] = some (iv (A1g d 1)) := by
 show g1 _ _ _ = _
 rw [B2p (τ := tD) (x := d) ⟨c, rfl, h⟩]
 exact if_pos hs
theorem E6u (a b : List UInt8) : bs a ++ bs b = bs (a ++ b) := by
 show (⟨a.toArray⟩ : ByteArray) ++ ⟨b.toArray⟩ = _
 apply ByteArray.ext
 simp [bs, ByteArray.data_append]
theorem sadd {a b : List UInt8} (h : a.length + b.length <= 2000000000) (Φ : A0u) (H : Heap) (nx : Nat) : A0d Φ H nx (.bin false .add none) [.t (sv (bs a)), .t (sv (bs b))] = some (.t (sv (bs (a ++ b))), H, nx) := by
 have e : binM false .add (.string (bs a)) (.string (bs b)) = some (.string (bs a ++ bs b)) := by
  show (if (bs a).size + (bs b).size <= 9223372036854775807 then some (Value.string (bs a ++ bs b)) else none) = _
  exact if_pos (by show a.toArray.size + b.toArray.size <= _; rw [List.size_toArray, List.size_toArray]; omega)
 rw [<- E6u]
 show (match binM false .add (.string (bs a)) (.string (bs b)) with
   | some v => some (PV.t (.v v), H, nx)
   | none => _) = _
 rw [e]
inductive Wr : Ds -> Prop where
 | mk (op : Int) (name : ByteArray) (path : List ByteArray) (kids : List Ds) : 1 <= op -> op <= 8 -> (op = 5 -> path ≠ [] /\ kids.length = 1) -> (op = 7 -> 2 <= kids.length) -> (op = 1 -> name.size ≠ 0) -> (op = 4 -> kids ≠ []) -> path.length <= 1000 -> kids.length <= 1000 -> (wrD (.mk op name path kids)).length <= 1000000000 -> (∀ k ∈ kids, Wr k) -> Wr (.mk op name path kids)
def B3b (sep last : List UInt8) (kids : List Ds) (j : Nat) : List UInt8 := (if j = 0 then [] else B7q sep last (kids.drop j)) ++ wrL sep last (kids.drop j)
theorem D7j (sep last : List UInt8) (kids : List Ds) : B3b sep last kids 0 = wrL sep last kids := by simp [B3b]
theorem E1d (sep last : List UInt8) (kids : List Ds) : B3b sep last kids kids.length = [] := by
 unfold B3b
 rw [List.drop_length]
 split <;> simp [B7q, wrL]
def E4j (sep last : List UInt8) (n j : Nat) : List UInt8 := if j = 0 then [] else if j + 1 = n then last else sep
theorem D7k (sep last : List UInt8) (kids : List Ds) {j : Nat} {x : Ds} (h : kids[j]? = some x) : B3b sep last kids j = E4j sep last kids.length j ++ (wrD x ++ B3b sep last kids (j + 1)) := by
 obtain ⟨hlt, he⟩ := List.getElem?_eq_some_iff.1 h
 unfold B3b E4j
 rw [List.drop_eq_getElem_cons hlt, he, wrL, if_neg (show ¬ j + 1 = 0 by omega)]
 by_cases h0 : j = 0
 ·rw [if_pos h0, if_pos h0]
 ·rw [if_neg h0, if_neg h0]
  congr 1
  cases hd : kids.drop (j + 1) with
  | nil =>
   have : kids.length <= j + 1 := List.drop_eq_nil_iff.1 hd
   rw [if_pos (by omega)]; rfl
  | cons y r =>
   have : (kids.drop (j + 1)).length = r.length + 1 := by rw [hd]; rfl
   rw [List.length_drop] at this
   rw [if_neg (by omega)]; rfl
def D7l : List ByteArray -> List UInt8
 | [] => []
 | s :: r => 46 :: A3r (s :: r)
theorem B1l (s : ByteArray) (r : List ByteArray) : A3r (s :: r) = s.data.toList ++ D7l r := by cases r <;> rfl
theorem E6v (b : UInt8) {s : ByteArray} (h : s.data.toList.length <= 1000000000) (Φ : A0u) (H : Heap) (nx : Nat) : A0d Φ H nx (.bin false .add none) [.t (sv ⟨#[b]⟩), .t (sv s)] = some (.t (sv (bs (b :: s.data.toList))), H, nx) := by
 have := sadd (a := [b]) (b := s.data.toList) (by show 1 + _ <= _; omega) Φ H nx
 rw [A9u] at this
 exact this
theorem Wr.parts {op : Int} {name : ByteArray} {path : List ByteArray} {kids : List Ds} (h : Wr (.mk op name path kids)) : 1 <= op /\ op <= 8 /\ (op = 5 -> path ≠ [] /\ kids.length = 1) /\ (op = 7 -> 2 <= kids.length) /\ (op = 1 -> name.size ≠ 0) /\ (op = 4 -> kids ≠ []) /\ path.length <= 1000 /\ kids.length <= 1000 /\ (wrD (.mk op name path kids)).length <= 1000000000 /\ ∀ k ∈ kids, Wr k := by
 cases h with
 | mk _ _ _ _ h1 h2 h3 h4 n1 n2 h5 h6 h7 h8 => exact ⟨h1, h2, h3, h4, n1, n2, h5, h6, h7, h8⟩
def priT (d : Ds) : T := if A1g d 1 ≠ 0 then .tu [sv ⟨#[]⟩, iv (A1g d 1)] else if 65536 < (wrD d).length then .tu [sv ⟨#[]⟩, iv 7] else .tu [sv (bs (wrD d)), iv 0]
theorem C0j : ∀ (path : List ByteArray), (∀ s ∈ path, s.size <= 60) -> (A3r path).length <= 61 * path.length
 | [], _ => by simp [A3r]
 | s :: r, h => by
  have h1 : s.data.toList.length <= 60 := h s (by simp)
  have ih := C0j r (fun x hx => h x (by simp [hx]))
  rw [B1l, List.length_append, List.length_cons]
  have : (D7l r).length <= 1 + (A3r r).length := by
   cases r with
   | nil => simp [D7l]
   | cons y r => simp [D7l]; omega
  omega
theorem Small.parts {op : Int} {name : ByteArray} {path : List ByteArray} {kids : List Ds} (h : Small (.mk op name path kids)) : name.size <= 60 /\ path.length <= 80 /\ (∀ s ∈ path, s.size <= 60) /\ kids.length <= 400 /\ ∀ k ∈ kids, Small k := by
 cases h with
 | mk _ _ _ _ h1 h2 h3 h4 h5 => exact ⟨h1, h2, h3, h4, h5⟩
theorem D7m {α β : Type} {sep last : List α} (h1 : sep.length <= 3) (h2 : last.length <= 3) (r : List β) : (B7q sep last r).length <= 3 := by
 match r with
 | [] => simp [B7q]
 | [_] => exact h2
 | _ :: _ :: _ => exact h1
mutual
theorem D0d : ∀ d : Ds, Small d -> (wrD d).length + 3 <= 6000 * A6h d
 | .mk op name path kids, h => by
  obtain ⟨h1, h2, h3, h4, h5⟩ := h.parts
  have hd := C0j path h3
  have hn : name.data.toList.length <= 60 := h1
  have k1 := B3c [32, 38, 32] [32, 38, 32] (by simp) (by simp) kids h5
  have k2 := B3c [] [] (by simp) (by simp) kids h5
  have k3 := B3c [44, 32] [44, 32] (by simp) (by simp) kids h5
  have k4 := B3c [44, 32] [32, 124, 32] (by simp) (by simp) kids h5
  rw [wrD, A6h]
  split
  ·omega
  ·split
   ·rw [List.length_cons]; omega
   ·split
    ·rw [List.length_cons]; omega
    ·split
     ·omega
     ·split
      ·simp only [List.length_cons, List.length_append, List.length_nil]; omega
      ·split
       ·simp only [List.length_cons, List.length_append, List.length_nil]; omega
       ·split
        ·simp only [List.length_cons, List.length_append, List.length_nil]; omega
        ·split
         ·simp only [List.length_cons, List.length_nil]; omega
         ·simp only [List.length_cons, List.length_append, List.length_nil]; omega
theorem B3c (sep last : List UInt8) (h1 : sep.length <= 3) (h2 : last.length <= 3) : ∀ l : List Ds, (∀ k ∈ l, Small k) -> (wrL sep last l).length <= 6000 * A6i l
 | [], _ => by simp [wrL]
 | d :: r, h => by
  have i1 := D0d d (h d (by simp))
  have i2 := B3c sep last h1 h2 r (fun k hk => h k (by simp [hk]))
  have i3 := D7m h1 h2 r
  rw [wrL, A6i, List.length_append, List.length_append]
  omega
end
theorem C5j {k : Ds} : ∀ {l : List Ds}, k ∈ l -> A6h k <= A6i l
 | d :: r, h => by
  rw [A6i]
  rcases List.mem_cons.1 h with rfl | h
  ·omega
  ·have := C5j h; omega
theorem C0k {k : Ds} {lv : Nat} : ∀ {l : List Ds}, A5j l lv = 0 -> k ∈ l -> A1g k lv = 0
 | d :: r, h, hk => by
  rw [A5j] at h
  split at h
  ·rename_i h1; exact absurd h h1
  ·rename_i h1
   rcases List.mem_cons.1 hk with rfl | hk
   ·exact Decidable.of_not_not h1
   ·exact C0k h hk
theorem Small.wr : ∀ {d : Ds}, Small d -> A6h d <= 100000 -> ∀ {lv : Nat}, A1g d lv = 0 -> Wr d := fun h => by
 induction h with
 | mk op name path kids h1 h2 h3 h4 h5 ih =>
  intro hn lv hc
  have hsz := D0d _ (Small.mk op name path kids h1 h2 h3 h4 h5)
  rw [A1g] at hc
  split at hc
  ·omega
  ·rename_i hlv
   split at hc
   ·rename_i hf; exact absurd hc hf
   ·rename_i hf
    have hf := Decidable.of_not_not hf
    unfold A9a at hf
    split at hf
    ·omega
    ·rename_i hop
     split at hf
     ·rename_i hB
      unfold B8p at hB
      simp only [Bool.and_eq_true] at hB
      obtain ⟨⟨⟨b1, b2⟩, b3⟩, b4⟩ := hB
      rw [A6h] at hn hsz
      refine .mk op name path kids (by omega) (by omega) (fun e => ?_) (fun e => ?_) (fun e => ?_) (fun e => ?_) (by omega) (by omega) (by omega) (fun k hk => ih k hk (by have := C5j hk; omega) (C0k hc hk))
      ·subst e
       refine ⟨?_, ?_⟩
       ·rintro rfl; simp at b2
       ·unfold B0b at b4
        simpa [A8m] using b4
      ·subst e
       unfold B0b at b4
       simpa [A8m] using b4
      ·subst e
       intro hz
       rw [if_pos (by rfl), B7s hz] at b1
       cases b1
      ·subst e
       rintro rfl
       unfold B0b at b4
       simp [A8m] at b4
     ·omega
def geB (s x : ByteArray) : Bool := !(Op.bytesLess s.toList x.toList)
def neB (s x : ByteArray) : Bool := !(s.toList == x.toList)
def wiS (x : ByteArray) : Bool -> List ByteArray -> List ByteArray
 | put, [] => if put then [] else [x]
 | put, s :: r => (if !put && geB s x then [x] else []) ++ ((if neB s x then [s] else []) ++ wiS x (put || geB s x) r)
mutual
def nmD (o : Int) : Ds -> List ByteArray -> List ByteArray
 | .mk op name _ kids, acc => nmL o kids (if op = o then wiS name false acc else acc)
def nmL (o : Int) : List Ds -> List ByteArray -> List ByteArray
 | [], acc => acc
 | d :: r, acc => nmL o r (nmD o d acc)
end
def namT (d : Ds) : T := .tu [A2h eStr (nmD 1 d []), A2h eStr (nmD 2 d [])]
end Go.Proofs.YtjkkgbdoeaihmaaGreatDoor
