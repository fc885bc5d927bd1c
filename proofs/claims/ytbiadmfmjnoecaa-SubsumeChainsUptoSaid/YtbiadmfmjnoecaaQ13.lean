/-
  Plain: morphisms of graphs; parts of them.
  Subsumption of types; the node to which an arc leads.
-/
import Derived.Test.YtbiadmfmjnoecaaQ12
namespace Go.Proofs.Ytbiadmfmjnoecaa
set_option linter.unusedSimpArgs false
set_option linter.unusedVariables false
open Go Go.Abs
def tgt (x : Nd) (f : Int) : Int := match x.arcs.find? (fun a => decide (a.feat = f)) with
 | some a => a.to
 | none => -1
def hsub (ty : List Typ) (s t : Int) : Bool := match ty[s.toNat]?, ty[t.toNat]? with
 | some x, some y => subL y.code x.code
 | _, _ => false
structure Mor (ty : List Typ) (a b : List Nd) (m : List Int) : Prop where
 len : m.length = a.length
 root : nAt m 0 = 0
 rng : ∀ i, i < a.length → 0 ≤ nAt m i ∧ nAt m i < (b.length : Int)
 type : ∀ (i : Nat) x, a[i]? = some x → hsub ty x.type (ndAt b (nAt m i)).type = true
 arc : ∀ (i : Nat) x, a[i]? = some x → ∀ c ∈ x.arcs, tgt (ndAt b (nAt m i)) c.feat = nAt m c.to.toNat
structure Done (ty : List Typ) (a b : List Nd) (m : List Int) (i : Nat) : Prop where
 pos : 0 ≤ nAt m i
 type : ∀ x, a[i]? = some x → hsub ty x.type (ndAt b (nAt m i)).type = true
 arc : ∀ x, a[i]? = some x → ∀ c ∈ x.arcs, tgt (ndAt b (nAt m i)) c.feat = nAt m c.to.toNat ∧ 0 ≤ nAt m c.to.toNat
structure PM (ty : List Typ) (a b : List Nd) (m : List Int) : Prop where
 len : m.length = a.length
 root : nAt m 0 = 0
 val : ∀ j, nAt m j < 0 ∨ (0 ≤ nAt m j ∧ nAt m j < (b.length : Int))
 below : ∀ m', Mor ty a b m' → ∀ j, j < a.length → 0 ≤ nAt m j → nAt m j = nAt m' j
def More (m m1 : List Int) : Prop := ∀ j, 0 ≤ nAt m j → nAt m1 j = nAt m j
theorem Done.more {ty : List Typ} {a b : List Nd} {m m1 : List Int} {i : Nat} (h : Done ty a b m i) (hm : More m m1) : Done ty a b m1 i := by
 have e := hm i h.pos
 refine ⟨by rw [e]; exact h.pos, fun x hx => by rw [e]; exact h.type x hx, fun x hx c hc => ?_⟩
 obtain ⟨h1, h2⟩ := h.arc x hx c hc
 rw [e, hm _ h2]
 exact ⟨h1, h2⟩
theorem mem_tgt {x : Nd} {f : Int} (h : 0 ≤ tgt x f) : ∃ a ∈ x.arcs, tgt x f = a.to := by
 unfold tgt at h ⊢
 cases hf : x.arcs.find? (fun a => decide (a.feat = f)) with
 | none => rw [hf] at h; simp at h
 | some a => exact ⟨a, List.mem_of_find?_eq_some hf, rfl⟩
theorem ndAt_of {l : List Nd} {k : Nat} {y : Nd} (h : l[k]? = some y) : ndAt l (k : Int) = y := by simp [ndAt, h]
section
variable {nt nf : Nat} {ty : List Typ} {a b : List Nd} {m : List Int}
theorem nAt_val {m : List Int} {j : Nat} {v : Int} (h : m[j]? = some v) : nAt m j = v := by
 unfold nAt
 rw [List.getD_eq_getElem?_getD, h]
 rfl
theorem nAt_get {m : List Int} {j : Nat} (h : j < m.length) : m[j]? = some (nAt m j) := by
 unfold nAt
 rw [List.getD_eq_getElem?_getD, List.getElem?_eq_getElem h]
 rfl
theorem PM.put (ha : Valid nt nf a) (hb : Valid nt nf b) (h : PM ty a b m) {i : Nat} {x : Nd} (hx : a[i]? = some x) (hi : 0 ≤ nAt m i) {c : Arc} (hc : c ∈ x.arcs) (ht : 0 ≤ tgt (ndAt b (nAt m i)) c.feat)
  (hor : nAt m c.to.toNat < 0 ∨ nAt m c.to.toNat = tgt (ndAt b (nAt m i)) c.feat) :
  PM ty a b (m.set c.to.toNat (tgt (ndAt b (nAt m i)) c.feat)) ∧ More m (m.set c.to.toNat (tgt (ndAt b (nAt m i)) c.feat)) ∧ nAt (m.set c.to.toNat (tgt (ndAt b (nAt m i)) c.feat)) c.to.toNat = tgt (ndAt b (nAt m i)) c.feat := by
 obtain ⟨h0, h1⟩ := ha.form.to x (List.mem_of_getElem? hx) c hc
 have hlt : c.to.toNat < m.length := by rw [h.len]; omega
 have hil : i < a.length := (List.getElem?_eq_some_iff.1 hx).1
 obtain ⟨to, hto⟩ : ∃ to, to = tgt (ndAt b (nAt m i)) c.feat := ⟨_, rfl⟩
 rw [← hto] at ht hor ⊢
 have hs : ∀ j, nAt (m.set c.to.toNat to) j = if j = c.to.toNat then to else nAt m j := fun j => nAt_set hlt
 have hmore : More m (m.set c.to.toNat to) := by
  intro j hj
  rw [hs]
  split
  ·rename_i e
   rcases hor with h | h
   ·rw [e] at hj; omega
   ·rw [e]; exact h.symm
  ·rfl
 have hb' : to < (b.length : Int) := by
  obtain ⟨d, hd, e⟩ := mem_tgt (x := ndAt b (nAt m i)) (f := c.feat) (by rw [← hto]; exact ht)
  rw [hto, e]
  rcases h.val i with h' | ⟨_, h'⟩
  ·omega
  ·have hk : (nAt m i).toNat < b.length := by omega
   have : ndAt b (nAt m i) = b[(nAt m i).toNat] := by simp [ndAt, List.getElem?_eq_getElem hk]
   rw [this] at hd
   exact (hb.form.to _ (List.getElem_mem hk) d hd).2
 refine ⟨⟨by simp [h.len], (hmore 0 (by rw [h.root]; omega)).trans h.root, fun j => ?_, fun m' hm' j hj hp => ?_⟩, hmore, by rw [hs, if_pos rfl]⟩
 ·rw [hs]
  split
  ·exact .inr ⟨ht, hb'⟩
  ·exact h.val j
 ·rw [hs] at hp ⊢
  split
  ·rename_i e
   rw [hto, h.below m' hm' i hil hi, hm'.arc i x hx c hc, e]
  ·rename_i e
   rw [if_neg e] at hp
   exact h.below m' hm' j hj hp
theorem PM.bad_type (h : PM ty a b m) {i : Nat} {x : Nd} (hx : a[i]? = some x) (hi : 0 ≤ nAt m i) (ht : hsub ty x.type (ndAt b (nAt m i)).type = false) : ¬ ∃ m', Mor ty a b m' := by
 rintro ⟨m', hm'⟩
 have := hm'.type i x hx
 rw [← h.below m' hm' i (List.getElem?_eq_some_iff.1 hx).1 hi, ht] at this
 cases this
theorem PM.bad_arc (ha : Valid nt nf a) (h : PM ty a b m) {i : Nat} {x : Nd} (hx : a[i]? = some x) (hi : 0 ≤ nAt m i) {c : Arc} (hc : c ∈ x.arcs) (ht : tgt (ndAt b (nAt m i)) c.feat < 0) : ¬ ∃ m', Mor ty a b m' := by
 rintro ⟨m', hm'⟩
 obtain ⟨h0, h1⟩ := ha.form.to x (List.mem_of_getElem? hx) c hc
 have := hm'.arc i x hx c hc
 rw [← h.below m' hm' i (List.getElem?_eq_some_iff.1 hx).1 hi] at this
 have := (hm'.rng c.to.toNat (by omega)).1
 omega
theorem PM.bad_to (ha : Valid nt nf a) (h : PM ty a b m) {i : Nat} {x : Nd} (hx : a[i]? = some x) (hi : 0 ≤ nAt m i) {c : Arc} (hc : c ∈ x.arcs) (hp : 0 ≤ nAt m c.to.toNat) (ht : nAt m c.to.toNat ≠ tgt (ndAt b (nAt m i)) c.feat) : ¬ ∃ m', Mor ty a b m' := by
 rintro ⟨m', hm'⟩
 obtain ⟨h0, h1⟩ := ha.form.to x (List.mem_of_getElem? hx) c hc
 have h2 := hm'.arc i x hx c hc
 rw [← h.below m' hm' i (List.getElem?_eq_some_iff.1 hx).1 hi, ← h.below m' hm' c.to.toNat (by omega) hp] at h2
 exact ht h2.symm
theorem PM.mor (ha : Valid nt nf a) (h : PM ty a b m) (hd : ∀ i, i < a.length → Done ty a b m i) : Mor ty a b m := by
 refine ⟨h.len, h.root, fun i hi => ?_, fun i x hx => ?_, fun i x hx c hc => ?_⟩
 ·have := (hd i hi).pos
  rcases h.val i with h' | h'
  ·omega
  ·exact h'
 ·exact (hd i (List.getElem?_eq_some_iff.1 hx).1).type x hx
 ·exact ((hd i (List.getElem?_eq_some_iff.1 hx).1).arc x hx c hc).1
theorem Mor.uniq (ha : Valid nt nf a) {m m' : List Int} (h : Mor ty a b m) (h' : Mor ty a b m') : m = m' := by
 have key : ∀ j, j < a.length → nAt m j = nAt m' j := by
  intro j
  induction j using Nat.strongRecOn with
  | ind j ih =>
   intro hj
   by_cases h0 : j = 0
   ·rw [h0, h.root, h'.root]
   ·obtain ⟨i, z, c, h1, h2, h3, h4⟩ := ha.par (by omega : 0 < j) hj
    have e1 := h.arc i z h2 c h3
    have e2 := h'.arc i z h2 c h3
    rw [ih i h1 (List.getElem?_eq_some_iff.1 h2).1] at e1
    have e3 : c.to.toNat = j := by omega
    rw [e3] at e1 e2
    rw [← e1, e2]
 refine List.ext_getElem (h.len.trans h'.len.symm) fun j h1 h2 => ?_
 have := key j (by rw [← h.len]; exact h1)
 have e1 := nAt_get h1
 have e2 := nAt_get h2
 rw [List.getElem?_eq_getElem h1] at e1
 rw [List.getElem?_eq_getElem h2] at e2
 injection e1 with e1
 injection e2 with e2
 rw [e1, e2, this]
end
noncomputable def mapT (ty : List Typ) (a b : List Nd) : T := open Classical in if h : ∃ m, Mor ty a b m then .tu [treeS eInt h.choose, bv true] else .tu [nilS, bv false]
theorem mapT_some {nt nf : Nat} {ty : List Typ} {a b : List Nd} {m : List Int} (ha : Valid nt nf a) (h : Mor ty a b m) : mapT ty a b = .tu [treeS eInt m, bv true] := by
 unfold mapT
 have hx : ∃ m, Mor ty a b m := ⟨m, h⟩
 rw [dif_pos hx, hx.choose_spec.uniq ha h]
theorem mapT_none {ty : List Typ} {a b : List Nd} (h : ¬ ∃ m, Mor ty a b m) : mapT ty a b = .tu [nilS, bv false] := by
 unfold mapT
 rw [dif_neg h]
def tH : Ty (List Typ × List Ft) := ⟨fun t h => ∃ u v, t = .ag [u, v] ∧ IsS eTyp u h.1 ∧ IsS eFt v h.2, fun t a b h h' => by
 obtain ⟨u, v, e, h1, h2⟩ := h
 obtain ⟨u', v', e', h1', h2'⟩ := h'
 rw [e] at e'
 injection e' with e'
 injection e' with e1 e2
 injection e2 with e2 _
 subst e1; subst e2
 exact Prod.ext ((tSl eTyp).uniq _ _ _ h1 h1') ((tSl eFt).uniq _ _ _ h2 h2')⟩
def TyOK (ty : List Typ) : Prop := ∀ x ∈ ty, x.code.length ≤ 1000
noncomputable def tw12 : Tbl := [(71, gB2 fSub)]
theorem ctw12 : Ctx Try.prog G (orc tw12) := (TblOK.cons (gB2_ok sub_call) .nil).ctx mixed
theorem hsubs_call {t f : T} {l : List Typ} (ht : IsS eTyp t l) {i j : Nat} {x y : Typ} (hx : l[i]? = some x) (hy : l[j]? = some y) (hxl : x.code.length ≤ 1000) (hyl : y.code.length ≤ 1000) :
  CallT Try.prog G 53 [.ag [t, f], iv (i : Int), iv (j : Int)] (· = bv (subL y.code x.code)) := by
 refine k_hier_Subsumes.runs ctw12 rfl ?_
 have i1 := ia_Typ ht hx
 have i2 := ia_Typ ht hy
 have gs : gB2 fSub [encB y.code, encB x.code] = some (bv (subL y.code x.code)) := gB2_eq (decB_encB _) (decB_encB _) hyl hxl
 have cp : cellsP (.t (.ag [t, f])) = some [.t t, .t f] := rfl
 simp -implicitDefEqProofs [M_hier_Subsumes, cp, i1, i2, loadM, tw12, gs]
noncomputable def gHS : List T → Option T := g3 tH tInt tInt fun h s t => open Classical in if TyOK h.1 ∧ (0 ≤ s ∧ s < (h.1.length : Int)) ∧ 0 ≤ t ∧ t < (h.1.length : Int) then some (bv (hsub h.1 s t)) else none
theorem hsub_at {ty : List Typ} {s t : Int} (hs : 0 ≤ s ∧ s < (ty.length : Int)) (ht : 0 ≤ t ∧ t < (ty.length : Int)) : ∃ (i j : Nat) (x y : Typ), s = (i : Int) ∧ t = (j : Int) ∧ ty[i]? = some x ∧ ty[j]? = some y ∧ hsub ty s t = subL y.code x.code := by
 obtain ⟨x, hx⟩ : ∃ x, ty[s.toNat]? = some x := ⟨_, List.getElem?_eq_getElem (by omega)⟩
 obtain ⟨y, hy⟩ : ∃ y, ty[t.toNat]? = some y := ⟨_, List.getElem?_eq_getElem (by omega)⟩
 exact ⟨s.toNat, t.toNat, x, y, by omega, by omega, hx, hy, by simp only [hsub, hx, hy]⟩
theorem gHS_ok {F : Nat} (h : ∀ {t f : T} {l : List Typ}, IsS eTyp t l → ∀ {i j : Nat} {x y : Typ}, l[i]? = some x → l[j]? = some y → x.code.length ≤ 1000 → y.code.length ≤ 1000 → CallT Try.prog G F [.ag [t, f], iv (i : Int), iv (j : Int)] (· = bv (subL y.code x.code))) : GOK Try.prog G F gHS := g3_ok fun a b c hh s t r ha hb hc hr => by
 obtain ⟨u, v, rfl, hu, hv⟩ := ha
 obtain rfl : b = iv s := hb
 obtain rfl : c = iv t := hc
 split at hr
 ·rename_i hq
  injection hr with hr
  subst hr
  obtain ⟨h0, h1, h2⟩ := hq
  obtain ⟨i, j, x, y, rfl, rfl, hx, hy, e⟩ := hsub_at h1 h2
  rw [e]
  exact h hu hx hy (h0 x (List.mem_of_getElem? hx)) (h0 y (List.mem_of_getElem? hy))
 ·cases hr
theorem gHS_eq {u v : T} {ty : List Typ} {fe : List Ft} (hu : IsS eTyp u ty) (hv : IsS eFt v fe) (h : TyOK ty) {s t : Int} (hs : 0 ≤ s ∧ s < (ty.length : Int)) (ht : 0 ≤ t ∧ t < (ty.length : Int)) : gHS [.ag [u, v], iv s, iv t] = some (bv (hsub ty s t)) :=
 (g3_eq (τ := tH) (σ := tInt) (ρ := tInt) (x := (ty, fe)) ⟨u, v, rfl, hu, hv⟩ rfl rfl).trans (if_pos ⟨h, hs, ht⟩)
theorem hsub6_ok : GOK Try.prog G 55 gHS := gHS_ok subs6_call
theorem hsubP_ok : GOK Try.prog G 53 gHS := gHS_ok hsubs_call
theorem tgt_idx (x : Nd) (f : Int) : ∃ n, n ≤ x.arcs.length ∧ (∀ (j : Nat) a, j < n → x.arcs[j]? = some a → ¬ a.feat = f) ∧ ((n = x.arcs.length ∧ tgt x f = -1 ∧ x.arcs.find? (fun a => decide (a.feat = f)) = none) ∨ ∃ a, x.arcs[n]? = some a ∧ a.feat = f ∧ tgt x f = a.to ∧ x.arcs.find? (fun a => decide (a.feat = f)) = some a) := by
 have key : ∀ l : List Arc, ∃ n, n ≤ l.length ∧ (∀ (j : Nat) a, j < n → l[j]? = some a → ¬ a.feat = f) ∧ ((n = l.length ∧ l.find? (fun a => decide (a.feat = f)) = none) ∨ ∃ a, l[n]? = some a ∧ a.feat = f ∧ l.find? (fun a => decide (a.feat = f)) = some a) := by
  intro l
  induction l with
  | nil => exact ⟨0, by simp, fun j a h => by omega, .inl ⟨rfl, rfl⟩⟩
  | cons c l ih =>
   by_cases hc : c.feat = f
   ·exact ⟨0, by simp, fun j a h => by omega, .inr ⟨c, rfl, hc, by simp [hc]⟩⟩
   ·obtain ⟨n, h1, h2, h3⟩ := ih
    refine ⟨n + 1, by simpa using h1, fun j a hj ha => ?_, ?_⟩
    ·cases j with
     | zero => simp at ha; rw [← ha]; exact hc
     | succ j => exact h2 j a (by omega) (by simpa using ha)
    ·rcases h3 with ⟨h4, h5⟩ | ⟨a, h4, h5, h6⟩
     ·exact .inl ⟨by simp [h4], by simp [hc, h5]⟩
     ·exact .inr ⟨a, by simpa using h4, h5, by simp [hc, h6]⟩
 obtain ⟨n, h1, h2, h3⟩ := key x.arcs
 refine ⟨n, h1, h2, ?_⟩
 rcases h3 with ⟨h4, h5⟩ | ⟨a, h4, h5, h6⟩
 ·exact .inl ⟨h4, by simp only [tgt, h5], h5⟩
 ·exact .inr ⟨a, h4, h5, by simp only [tgt, h6], h6⟩
def S54 (x : Nd) (f : Int) (j : Nat) : AState := ⟨[(10, .t (iv (j : Int))), (9, .t (iv (x.arcs.length : Int))), (8, .t x.tree), (1, .t (iv f))], [], 1, 21⟩
theorem target_call (x : Nd) (hx : x.arcs.length ≤ 1000000) (f : Int) : CallT Try.prog G 54 [.ag [iv x.type, x.tree], iv f] (· = iv (tgt x f)) := by
 have cp : cellsP (.t (.ag [iv x.type, x.tree])) = some [.t (iv x.type), .t x.tree] := rfl
 refine k_subsume_target.call rfl ?_
 unfold M_subsume_target
 refine mc_seq_runs ctx0 ?_
 simp -implicitDefEqProofs [cp]
 obtain ⟨n, hle, h0, hn⟩ := tgt_idx x f
 refine mc_cut (fun _ : Unit => S54 x f x.arcs.length) (fun _ => tgt x f = -1) (fun _ => rfl) ?_ ?_
 ·refine mc_seq_runs ctx0 ?_
  simp -implicitDefEqProofs [loadM, x.ok.len]
  refine mc_block ?_
  refine mc_for (S54 x f) n (fun _ => rfl) ?_ rfl ?_ ?_
  ·refine sub_forget rfl rfl ?_ ?_ <;> simp -implicitDefEqProofs [S54]
  ·intro j hj
   have hjl : j < x.arcs.length := by omega
   obtain ⟨a, ha⟩ : ∃ a, x.arcs[j]? = some a := ⟨_, List.getElem?_eq_getElem hjl⟩
   have ia := ia_Arc x.ok ha
   have ca : cellsP (.t (.ag [iv a.feat, iv a.to])) = some [.t (iv a.feat), .t (iv a.to)] := rfl
   have e1 : IntKind.i64.wrap ((j : Int) + 1) = ((j + 1 : Nat) : Int) := wrap_nat (by omega) (by omega)
   have hf := h0 j a hj ha
   refine mc_runs ctx0 ?_
   simp -implicitDefEqProofs [S54, hjl, ia, loadM, storeM, ca, splice, hf, e1]
   exact sub_R (by omega) (fun q hq => by cases hq) (by simp -implicitDefEqProofs [under])
  ·refine mc_runs ctx0 ?_
   rcases hn with ⟨e, h1, _⟩ | ⟨a, ha, hf, h1, _⟩
   ·have hnl : ¬ n < x.arcs.length := by omega
    simp -implicitDefEqProofs [S54, hnl]
    exact Next.mk () h1 (sub_forget rfl rfl (by simp -implicitDefEqProofs [e]) (by simp -implicitDefEqProofs))
   ·have hjl : n < x.arcs.length := (List.getElem?_eq_some_iff.1 ha).1
    have ia := ia_Arc x.ok ha
    rw [hf] at ia
    have ca : cellsP (.t (.ag [iv f, iv a.to])) = some [.t (iv f), .t (iv a.to)] := rfl
    simp -implicitDefEqProofs [S54, hjl, ia, loadM, storeM, ca, splice, h1]
 ·rintro _ e
  refine mc_runs ctx0 ?_
  simp -implicitDefEqProofs [S54, e]
noncomputable def gTarget : List T → Option T := g2 (tAg eNd) tInt fun x f => if x.arcs.length ≤ 1000000 then some (iv (tgt x f)) else none
theorem gTarget_ok : GOK Try.prog G 54 gTarget := g2_ok fun a b x y r ha hb hr => by
 obtain rfl : a = .ag (eNd.enc x) := ha
 obtain rfl : b = iv y := hb
 split at hr
 ·rename_i h; injection hr with hr; subst hr; exact target_call x h y
 ·cases hr
theorem gTarget_eq (x : Nd) (hx : x.arcs.length ≤ 1000000) (f : Int) : gTarget [.ag [iv x.type, x.tree], iv f] = some (iv (tgt x f)) :=
 (g2_eq (τ := tAg eNd) (σ := tInt) (x := x) (show _ = T.ag (eNd.enc x) from rfl) rfl).trans (if_pos hx)
def stepT (x : Nd) (f : Int) : T := match x.arcs.find? (fun a => decide (a.feat = f)) with
 | some a => .tu [iv a.to, bv true]
 | none => .tu [iv 0, bv false]
def S56 (x : Nd) (f : Int) (j : Nat) : AState := ⟨[(9, .t (iv (j : Int))), (8, .t x.tree), (2, .t (iv f))], [], 1, 34⟩
theorem step_call {t : T} {l : List Nd} (ht : IsS eNd t l) {n : Nat} {x : Nd} (hn : l[n]? = some x) (hx : x.arcs.length ≤ 1000000) (f : Int) : CallT Try.prog G 56 [.ag [t], iv (n : Int), iv f] (· = stepT x f) := by
 have cp : cellsP (.t (.ag [t])) = some [.t t] := rfl
 have ix := ia_Nd ht hn
 refine k_r08_Step.call rfl ?_
 unfold M_r08_Step
 refine mc_seq_runs ctx0 ?_
 simp -implicitDefEqProofs [cp]
 refine mc_seq_runs ctx0 ?_
 simp -implicitDefEqProofs [loadM, ix]
 clear hn
 obtain ⟨n, hle, h0, hn⟩ := tgt_idx x f
 refine mc_cut (fun _ : Unit => S56 x f x.arcs.length) (fun _ => stepT x f = .tu [iv 0, bv false]) (fun _ => rfl) ?_ ?_
 ·refine mc_seq_runs ctx0 ?_
  simp -implicitDefEqProofs
  refine mc_block ?_
  refine mc_for (S56 x f) n (fun _ => rfl) ?_ rfl ?_ ?_
  ·refine sub_forget rfl rfl ?_ ?_ <;> simp -implicitDefEqProofs [S56]
  ·intro j hj
   have hjl : j < x.arcs.length := by omega
   obtain ⟨a, ha⟩ : ∃ a, x.arcs[j]? = some a := ⟨_, List.getElem?_eq_getElem hjl⟩
   have ia := ia_Arc x.ok ha
   have e1 : IntKind.i64.wrap ((j : Int) + 1) = ((j + 1 : Nat) : Int) := wrap_nat (by omega) (by omega)
   have hf := h0 j a hj ha
   refine mc_runs ctx0 ?_
   simp -implicitDefEqProofs [S56, hjl, x.ok.len, ia, loadM, hf, e1]
   refine sub_forget rfl rfl ?_ ?_ <;> simp -implicitDefEqProofs
  ·refine mc_runs ctx0 ?_
   rcases hn with ⟨e, _, h1⟩ | ⟨a, ha, hf, _, h1⟩
   ·have hnl : ¬ n < x.arcs.length := by omega
    simp -implicitDefEqProofs [S56, hnl, x.ok.len]
    exact Next.mk () (by simp only [stepT, h1]) (sub_forget rfl rfl (by simp -implicitDefEqProofs [e]) (by simp -implicitDefEqProofs))
   ·have hjl : n < x.arcs.length := (List.getElem?_eq_some_iff.1 ha).1
    have ia := ia_Arc x.ok ha
    have hr : stepT x f = .tu [iv a.to, bv true] := by simp only [stepT, h1]
    simp -implicitDefEqProofs [S56, hjl, x.ok.len, ia, loadM, hf, hr]
 ·rintro _ hr
  refine mc_runs ctx0 ?_
  simp -implicitDefEqProofs [S56, hr]
noncomputable def gStep : List T → Option T := g3 tFS tInt tInt fun l n f => match l[n.toNat]? with
 | some x => if 0 ≤ n ∧ x.arcs.length ≤ 1000000 then some (stepT x f) else none
 | none => none
theorem gStep_ok : GOK Try.prog G 56 gStep := g3_ok fun a b c l n f r ha hb hc hr => by
 obtain ⟨u, rfl, hu⟩ := ha
 obtain rfl : b = iv n := hb
 obtain rfl : c = iv f := hc
 split at hr
 ·rename_i x hx
  split at hr
  ·rename_i h
   injection hr with hr
   subst hr
   have e : n = (n.toNat : Int) := by omega
   have := step_call hu hx h.2 f
   rw [← e] at this
   exact this
  ·cases hr
 ·cases hr
theorem gStep_eq {t : T} {l : List Nd} (ht : IsS eNd t l) {n : Nat} {x : Nd} (hn : l[n]? = some x) (hx : x.arcs.length ≤ 1000000) (f : Int) : gStep [.ag [t], iv (n : Int), iv f] = some (stepT x f) := by
 refine (g3_eq (τ := tFS) (σ := tInt) (ρ := tInt) ⟨t, rfl, ht⟩ rfl rfl).trans ?_
 simp only [Int.toNat_natCast, hn]
 rw [if_pos ⟨by omega, hx⟩]
theorem stepT_tgt {nt nf : Nat} {b : List Nd} (hb : Valid nt nf b) {x : Nd} (hx : x ∈ b) (f : Int) : (tgt x f < 0 ∧ stepT x f = .tu [iv 0, bv false]) ∨ (0 ≤ tgt x f ∧ stepT x f = .tu [iv (tgt x f), bv true]) := by
 unfold tgt stepT
 cases h : x.arcs.find? (fun a => decide (a.feat = f)) with
 | none => exact .inl ⟨by simp, rfl⟩
 | some a => exact .inr ⟨(hb.form.to x hx a (List.mem_of_find?_eq_some h)).1, rfl⟩
end Go.Proofs.Ytbiadmfmjnoecaa
