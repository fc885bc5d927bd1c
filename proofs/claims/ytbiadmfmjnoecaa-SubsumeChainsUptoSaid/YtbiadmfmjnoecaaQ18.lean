/-
  What came in as trees: declarations and feature structures; their bounds by the bulk of what is read. No statement of the program stands here.
  The arguments of the laws of chapters 09 and 10 as trees. No statement of the program stands here.
-/
import Derived.Test.YtbiadmfmjnoecaaRows
import Derived.Test.YtbiadmfmjnoecaaA21
import Derived.Test.YtbiadmfmjnoecaaQ13
import Derived.Test.YtbiadmfmjnoecaaProg
import Derived.Test.YtbiadmfmjnoecaaQ17
import Derived.JoinedCond
namespace Go.Proofs.Ytbiadmfmjnoecaa
set_option linter.unusedSimpArgs false
set_option linter.unusedVariables false
open Go Go.Abs Go.ChangeShapes Go.WideShapes Go.ChangeAt Go.RowKit
section
variable {H : Type} {enc : TypeId × Value → H} {P : Program} {W : World} {spare : Nat → Bool} {held : Bool}
theorem bulk_one {H : Type} (d : DataW H) : 1 ≤ Rows.uptoBulk d := by
 cases d with
 | lit l => cases l <;> simp [Rows.uptoBulk]
 | nil => simp [Rows.uptoBulk]
 | ptr d => simp [Rows.uptoBulk]
 | slice elems spare => simp [Rows.uptoBulk]
 | agg parts => simp [Rows.uptoBulk]
 | iface t d => simp [Rows.uptoBulk]
 | map entries => simp [Rows.uptoBulk]
 | held h => simp [Rows.uptoBulk]
theorem bulk_part {H : Type} {d : DataW H} {l : List (DataW H)} (h : d ∈ l) : Rows.uptoBulk d ≤ Rows.uptoBulkAll l := by
 induction l with
 | nil => cases h
 | cons x r ih =>
  simp only [Rows.uptoBulkAll]
  cases List.mem_cons.1 h with
  | inl e => subst e; omega
  | inr e => have := ih e; omega
theorem bulk_len {H : Type} (l : List (DataW H)) : l.length ≤ Rows.uptoBulkAll l := by
 induction l with
 | nil => simp [Rows.uptoBulkAll]
 | cons x r ih => have := bulk_one x; simp only [Rows.uptoBulkAll, List.length_cons]; omega
theorem addr_add (a : Addr) (x y : Nat) : a.add (x + y) = (a.add x).add y := by
 unfold Addr.add
 by_cases hx : x = 0 <;> by_cases hy : y = 0 <;> simp [hx, hy, Nat.add_assoc]
def RdL (W : World) (ts : List T) (cs : List Value) : Prop := RepL (Old W) W ts cs ∧ ∀ x ∈ cs, x.oneCell' = true
theorem RdL.at' {ts : List T} {cs : List Value} (h : RdL W ts cs) {j : Nat} {c : T} (hj : ts[j]? = some c) : ∃ x, cs[j]? = some x ∧ x.oneCell' = true ∧ RepT (Old W) W c x := by
 obtain ⟨x, hx, hr⟩ := h.1.at_ j hj
 exact ⟨x, hx, h.2 x (List.mem_of_getElem? hx), hr⟩
theorem repL_append {I : Nat → Prop} {w : World} : ∀ {ts ts' : List T} {us us' : List Value}, RepL I w ts us → RepL I w ts' us' → RepL I w (ts ++ ts') (us ++ us')
 | [], ts', us, us', h, h' => by simp only [RepL] at h; subst h; simpa using h'
 | t :: ts, ts', us, us', h, h' => by
  simp only [RepL] at h
  obtain ⟨x, xs, rfl, hx, hxs⟩ := h
  simp only [List.cons_append, RepL]
  exact ⟨x, xs ++ us', rfl, hx, repL_append hxs h'⟩
theorem RdL.append {ts ts' : List T} {cs cs' : List Value} (h : RdL W ts cs) (h' : RdL W ts' cs') : RdL W (ts ++ ts') (cs ++ cs') :=
 ⟨repL_append h.1 h'.1, fun x hx => by rcases List.mem_append.1 hx with hx | hx; exact h.2 x hx; exact h'.2 x hx⟩
theorem RdL.len {ts : List T} {cs : List Value} (h : RdL W ts cs) : ts.length = cs.length := by
 have : ∀ (ts : List T) (cs : List Value), RepL (Old W) W ts cs → ts.length = cs.length := by
  intro ts
  induction ts with
  | nil => intro cs h; simp only [RepL] at h; rw [h]; rfl
  | cons t ts ih =>
   intro cs h
   simp only [RepL] at h
   obtain ⟨x, xs, rfl, _, hxs⟩ := h
   simp [ih xs hxs]
 exact this ts cs h.1
def Rd (enc : TypeId × Value → H) (P : Program) (W : World) (spare : Nat → Bool) (held : Bool) (t : TypeId) (Q : Nat → List T → Prop) : Prop :=
 ∀ fuel cs d p, DataW.trod enc P W 0 spare held fuel t cs = some (d, p) → ∃ ts, RdL W ts cs ∧ Q (Rows.uptoBulk d) ts
theorem rd_int {t : TypeId} {k : IntKind} (ht : P.underlying t = some (.int k)) : Rd enc P W spare held t fun _ ts => ∃ n, ts = [.v (.int k n)] := by
 intro fuel cs d p h
 obtain ⟨n, rfl, _, _⟩ := DataW.trod_int ht h
 exact ⟨[.v (.int k n)], ⟨by simp only [RepL, RepT]; exact ⟨_, _, rfl, rfl, rfl⟩, by simp [Value.oneCell']⟩, n, rfl⟩
theorem rd_str {t : TypeId} (ht : P.underlying t = some .string) : Rd enc P W spare held t fun b ts => ∃ s : ByteArray, ts = [sv s] ∧ s.size ≤ b := by
 intro fuel cs d p h
 obtain ⟨s, rfl, e, _⟩ := DataW.trod_string ht h
 injection e with e1 _
 subst e1
 refine ⟨[sv s], ⟨by simp only [RepL, RepT]; exact ⟨_, _, rfl, rfl, rfl⟩, by simp [Value.oneCell']⟩, s, rfl, ?_⟩
 simp only [Rows.uptoBulk]
 have : s.data.toList.length = s.size := rfl
 omega
theorem rd_slice {α : Type} {e : Enc α} {t el : TypeId} {R : Nat → α → Prop} (ht : P.underlying t = some (.slice el)) (hc : P.cellsOf el = e.z) (hr : Rd enc P W spare held el fun b ts => ∃ a, ts = e.enc a ∧ R b a) :
  Rd enc P W spare held t fun b ts => ∃ x l, ts = [x] ∧ IsS e x l ∧ l.length ≤ b ∧ ∀ a ∈ l, ∃ b', b' ≤ b ∧ R b' a := by
 intro fuel cs d p h
 rcases DataW.trod_slice ht h with ⟨rfl, e0⟩ | ⟨a, len, cap, elems, rest, n, _, rfl, e0, _, hl, hm, hlen, hel, _, _⟩
 ·refine ⟨[nilS], ⟨by simp only [RepL, RepT]; exact ⟨_, _, rfl, rfl, rfl⟩, by simp [Value.oneCell']⟩, nilS, [], rfl, IsS.nil, by simp, fun a ha => by cases ha⟩
 ·injection e0 with e1 _
  subst e1
  have each : ∀ i, i < len → ∃ (y : DataW H × List MemPlace) (cs : List Value) (a' : α), elems[i]? = some y ∧ W.cells? 0 (a.add (i * e.z)) e.z = some cs ∧ RdL W (e.enc a') cs ∧ R (Rows.uptoBulk y.1) a' := by
   intro i hi
   obtain ⟨y, hy⟩ : ∃ y, elems[i]? = some y := ⟨_, List.getElem?_eq_getElem (by omega)⟩
   have := hel i hi
   rw [hy, hc, Option.bind_eq_some_iff] at this
   obtain ⟨cs, h1, h2⟩ := this
   obtain ⟨ts, h3, a', rfl, h4⟩ := hr n cs y.1 y.2 h2
   exact ⟨y, cs, a', hy, h1, h3, h4⟩
  have build : ∀ k, k ≤ len → ∃ l : List α, l.length = k ∧ ∀ (i : Nat) a', l[i]? = some a' → ∃ (y : DataW H × List MemPlace) (cs : List Value), elems[i]? = some y ∧ W.cells? 0 (a.add (i * e.z)) e.z = some cs ∧ RdL W (e.enc a') cs ∧ R (Rows.uptoBulk y.1) a' := by
   intro k
   induction k with
   | zero => exact fun _ => ⟨[], rfl, fun i a' h => by simp at h⟩
   | succ k ih =>
    intro hk
    obtain ⟨l, h1, h2⟩ := ih (by omega)
    obtain ⟨y, cs, a', h3, h4, h5, h6⟩ := each k (by omega)
    refine ⟨l ++ [a'], by simp [h1], fun i b hb => ?_⟩
    rw [List.getElem?_append] at hb
    split at hb
    ·exact h2 i b hb
    ·have : i - l.length = 0 := by
      have := (List.getElem?_eq_some_iff.1 hb).1
      simp at this
      omega
     have hi : i = k := by omega
     rw [this] at hb
     simp at hb
     subst hb
     rw [hi]
     exact ⟨y, cs, h3, h4, h5, h6⟩
  obtain ⟨l, hll, hat⟩ := build len (Nat.le_refl _)
  have hbl : elems.length ≤ Rows.uptoBulkAll (elems.map (·.1)) := by
   have := bulk_len (elems.map (·.1))
   simpa using this
  have hbulk : Rows.uptoBulk (DataW.slice (elems.map (·.1)) (rest.map (·.1))) = Rows.uptoBulkAll (elems.map (·.1)) + Rows.uptoBulkAll (rest.map (·.1)) + 1 := by simp only [Rows.uptoBulk]
  refine ⟨[slT e l], ⟨?_, by simp [Value.oneCell']⟩, slT e l, l, rfl, IsS.mk l, by rw [hbulk]; omega, fun a' ha => ?_⟩
  ·simp only [RepL]
   refine ⟨_, _, rfl, ?_, rfl⟩
   simp only [slT, RepT]
   refine ⟨a, cap, by rw [hll], by omega, ?_⟩
   by_cases h0 : len = 0
   ·left
    have : l = [] := List.length_eq_zero_iff.1 (by omega)
    rw [this]
    simp
   ·right
    obtain ⟨a0, ha0⟩ : ∃ a0, l[0]? = some a0 := ⟨_, List.getElem?_eq_getElem (by omega)⟩
    have hzp := e.pos
    have cellAt : ∀ (i j : Nat) (a' : α) (c : T), l[i]? = some a' → (e.enc a')[j]? = some c → ∃ x, W.cell? (a.add (i * e.z + j)) = some x ∧ x.oneCell' = true ∧ RepT (Old W) W c x := by
     intro i j a' c hi hj
     obtain ⟨y, cs, _, h2, h3, _⟩ := hat i a' hi
     obtain ⟨x, hx, h4, h5⟩ := h3.at' hj
     have hjl : j < e.z := by rw [← e.len a']; exact (List.getElem?_eq_some_iff.1 hj).1
     obtain ⟨_, _, h6⟩ := World.cells?_some h2
     have := h6 j hjl
     refine ⟨x, ?_, h4, h5⟩
     rw [← hx, ← this]
     congr 1
     exact addr_add a _ _
    obtain ⟨c0, hc0⟩ : ∃ c0, (e.enc a0)[0]? = some c0 := ⟨_, List.getElem?_eq_getElem (by rw [e.len]; exact hzp)⟩
    obtain ⟨x0, hx0, _, _⟩ := cellAt 0 0 a0 c0 ha0 hc0
    have hs : a.spot = none := by simpa [Addr.add] using World.cell?_spot hx0
    refine ⟨hs, by simpa [Addr.add, Old] using cell_lt hx0, RepC.mk fun k c hk => ?_⟩
    have hkl : k < (l.flatMap e.enc).length := (List.getElem?_eq_some_iff.1 hk).1
    rw [length_flat] at hkl
    have hi : k / e.z < l.length := Nat.div_lt_of_lt_mul (by rw [Nat.mul_comm]; exact hkl)
    obtain ⟨a', ha'⟩ : ∃ a', l[k / e.z]? = some a' := ⟨_, List.getElem?_eq_getElem hi⟩
    have hkz : k / e.z * e.z + k % e.z = k := by rw [Nat.mul_comm]; exact Nat.div_add_mod k e.z
    have hmod := Nat.mod_lt k hzp
    have hd := flat_drop e l (k / e.z) a' ha'
    have hj : (e.enc a')[k % e.z]? = some c := by
     have h7 : ((l.flatMap e.enc).drop (k / e.z * e.z))[k % e.z]? = some c := by rw [List.getElem?_drop, hkz]; exact hk
     rw [hd, List.getElem?_append_left (by rw [e.len]; exact hmod)] at h7
     exact h7
    obtain ⟨x, hx, h8, h9⟩ := cellAt (k / e.z) (k % e.z) a' c ha' hj
    rw [hkz] at hx
    obtain ⟨ab, ao, as'⟩ := a
    simp only at hs
    subst hs
    refine ⟨x, ?_, h8, h9⟩
    by_cases hk0 : k = 0
    ·subst hk0; simpa [Addr.add] using hx
    ·simpa [Addr.add, hk0] using hx
  ·obtain ⟨i, hi, e1⟩ := List.getElem_of_mem ha
   obtain ⟨y, cs, h1, _, _, h4⟩ := hat i a' (by rw [List.getElem?_eq_getElem hi, e1])
   refine ⟨_, ?_, h4⟩
   have := bulk_part (d := y.1) (l := elems.map (·.1)) (List.mem_map_of_mem (List.mem_of_getElem? h1))
   rw [hbulk]
   omega
theorem take_all {α : Type} {l : List α} {n : Nat} (h : l.length = n) : (l.drop 0).take n = l := by rw [List.drop_zero, ← h, List.take_length]
theorem rd_struct1 {t : TypeId} {f0 : Field} {Q0 : Nat → List T → Prop} (ht : P.underlying t = some (.struct #[f0])) (ho : f0.offset = 0) (hc : P.cellsOf t = P.cellsOf f0.type) (h0 : Rd enc P W spare held f0.type Q0) :
  Rd enc P W spare held t fun b ts => ∃ b0, b0 ≤ b ∧ Q0 b0 ts := by
 intro fuel cs d p h
 obtain ⟨y0, n, e, hl, h1⟩ := trod_struct1 ht h
 injection e with e1 _
 subst e1
 rw [ho, ← hc, take_all hl] at h1
 obtain ⟨ts, h2, h3⟩ := h0 n cs y0.1 y0.2 h1
 refine ⟨ts, h2, _, ?_, h3⟩
 simp only [Rows.uptoBulk, Rows.uptoBulkAll]
 omega
theorem rd_struct2 {t : TypeId} {f0 f1 : Field} {Q0 Q1 : Nat → List T → Prop} (ht : P.underlying t = some (.struct #[f0, f1])) (ho : f0.offset = 0) (ho1 : f1.offset = P.cellsOf f0.type) (hc : P.cellsOf t = P.cellsOf f0.type + P.cellsOf f1.type)
  (h0 : Rd enc P W spare held f0.type Q0) (h1 : Rd enc P W spare held f1.type Q1) : Rd enc P W spare held t fun b ts => ∃ b0 b1 t0 t1, b0 ≤ b ∧ b1 ≤ b ∧ ts = t0 ++ t1 ∧ Q0 b0 t0 ∧ Q1 b1 t1 := by
 intro fuel cs d p h
 obtain ⟨y0, y1, n, e, hl, g0, g1⟩ := trod_struct2 ht h
 injection e with e1 _
 subst e1
 rw [ho, List.drop_zero] at g0
 rw [ho1] at g1
 have ht1 : (cs.drop (P.cellsOf f0.type)).take (P.cellsOf f1.type) = cs.drop (P.cellsOf f0.type) := List.take_of_length_le (by rw [List.length_drop]; omega)
 rw [ht1] at g1
 obtain ⟨t0, a0, b0⟩ := h0 n _ y0.1 y0.2 g0
 obtain ⟨t1, a1, b1⟩ := h1 n _ y1.1 y1.2 g1
 refine ⟨t0 ++ t1, ?_, _, _, t0, t1, ?_, ?_, rfl, b0, b1⟩
 ·have := a0.append a1
  rwa [List.take_append_drop] at this
 ·simp only [Rows.uptoBulk, Rows.uptoBulkAll]; omega
 ·simp only [Rows.uptoBulk, Rows.uptoBulkAll]; omega
theorem rd_struct3 {t : TypeId} {f0 f1 f2 : Field} {Q0 Q1 Q2 : Nat → List T → Prop} (ht : P.underlying t = some (.struct #[f0, f1, f2])) (ho : f0.offset = 0) (ho1 : f1.offset = 1) (ho2 : f2.offset = 2) (c0 : P.cellsOf f0.type = 1) (c1 : P.cellsOf f1.type = 1) (c2 : P.cellsOf f2.type = 1) (hc : P.cellsOf t = 3)
  (h0 : Rd enc P W spare held f0.type Q0) (h1 : Rd enc P W spare held f1.type Q1) (h2 : Rd enc P W spare held f2.type Q2) : Rd enc P W spare held t fun b ts => ∃ b0 b1 b2 t0 t1 t2, b0 ≤ b ∧ b1 ≤ b ∧ b2 ≤ b ∧ ts = t0 ++ (t1 ++ t2) ∧ Q0 b0 t0 ∧ Q1 b1 t1 ∧ Q2 b2 t2 := by
 intro fuel cs d p h
 obtain ⟨xs, n, _, e, hl, hlen, hf⟩ := DataW.trod_struct ht h
 injection e with e1 _
 subst e1
 rw [hc] at hl
 match xs, hlen, cs, hl with
 | [y0, y1, y2], _, [v0, v1, v2], _ =>
  have g0 := hf 0 f0 rfl
  have g1 := hf 1 f1 rfl
  have g2 := hf 2 f2 rfl
  rw [ho, c0] at g0
  rw [ho1, c1] at g1
  rw [ho2, c2] at g2
  obtain ⟨t0, a0, b0⟩ := h0 n [v0] y0.1 y0.2 g0
  obtain ⟨t1, a1, b1⟩ := h1 n [v1] y1.1 y1.2 g1
  obtain ⟨t2, a2, b2⟩ := h2 n [v2] y2.1 y2.2 g2
  refine ⟨t0 ++ (t1 ++ t2), a0.append (a1.append a2), _, _, _, t0, t1, t2, ?_, ?_, ?_, rfl, b0, b1, b2⟩
  ·simp only [List.map_cons, List.map_nil, Rows.uptoBulk, Rows.uptoBulkAll]; omega
  ·simp only [List.map_cons, List.map_nil, Rows.uptoBulk, Rows.uptoBulkAll]; omega
  ·simp only [List.map_cons, List.map_nil, Rows.uptoBulk, Rows.uptoBulkAll]; omega
theorem Rd.mono {t : TypeId} {Q Q' : Nat → List T → Prop} (h : Rd enc P W spare held t Q) (hq : ∀ b ts, Q b ts → Q' b ts) : Rd enc P W spare held t Q' := fun fuel cs d p hd => by
 obtain ⟨ts, h1, h2⟩ := h fuel cs d p hd
 exact ⟨ts, h1, hq _ _ h2⟩
end
end Go.Proofs.Ytbiadmfmjnoecaa
namespace Go.Proofs.Ytbiadmfmjnoecaa
set_option linter.unusedSimpArgs false
set_option linter.unusedVariables false
open Go Go.Abs Go.ChangeShapes Go.WideShapes Go.ChangeAt Go.RowKit
section
variable {H : Type} {enc : TypeId × Value → H} {W : World} {spare : Nat → Bool} {held : Bool}
theorem rd_arc : Rd enc Try.prog W spare held 81 fun b ts => ∃ a : Arc, ts = eArc.enc a ∧ True :=
 (rd_struct2 Try.underlying81 rfl (by kernel_rfl) (by kernel_rfl) (rd_int Try.underlying3) (rd_int Try.underlying3)).mono fun b ts ⟨_, _, t0, t1, _, _, e, ⟨n, e0⟩, ⟨m, e1⟩⟩ => ⟨⟨n, m⟩, by rw [e, e0, e1]; rfl, trivial⟩
theorem rd_node : Rd enc Try.prog W spare held 61 fun b ts => ∃ x : Nd, ts = eNd.enc x ∧ x.arcs.length ≤ b :=
 (rd_struct2 Try.underlying61 rfl (by kernel_rfl) (by kernel_rfl) (rd_int Try.underlying3) (rd_slice Try.underlying59 (by kernel_rfl) rd_arc)).mono fun b ts ⟨_, b1, t0, t1, _, h1, e, ⟨n, e0⟩, ⟨x, l, e1, hx, hl, _⟩⟩ => ⟨⟨n, x, l, hx⟩, by rw [e, e0, e1]; rfl, Nat.le_trans hl h1⟩
theorem rd_fs : Rd enc Try.prog W spare held 25 fun b ts => ∃ x : FSv, ts = eFS.enc x ∧ x.nodes.length ≤ b ∧ ∀ y ∈ x.nodes, y.arcs.length ≤ b :=
 (rd_struct1 Try.underlying25 rfl (by kernel_rfl) (rd_slice Try.underlying23 (by kernel_rfl) rd_node)).mono fun b ts ⟨b0, h0, x, l, e, hx, hl, ha⟩ => ⟨⟨x, l, hx⟩, e, Nat.le_trans hl h0, fun y hy => by
  obtain ⟨b', h1, h2⟩ := ha y hy
  omega⟩
theorem rd_strs : Rd enc Try.prog W spare held 120 fun b ts => ∃ x l, ts = [x] ∧ IsS eStr x l ∧ l.length ≤ b :=
 (rd_slice (e := eStr) (R := fun b s => s.size ≤ b) Try.underlying120 (by kernel_rfl) ((rd_str Try.underlying9).mono fun b ts ⟨s, e, h⟩ => ⟨s, e, h⟩)).mono fun b ts ⟨x, l, e, hx, hl, _⟩ => ⟨x, l, e, hx, hl⟩
theorem rd_fd : Rd enc Try.prog W spare held 128 fun b ts => ∃ x : FD, ts = eFD.enc x ∧ x.feat.size ≤ b :=
 (rd_struct2 Try.underlying128 rfl (by kernel_rfl) (by kernel_rfl) (rd_str Try.underlying9) (rd_str Try.underlying9)).mono fun b ts ⟨_, _, t0, t1, h0, _, e, ⟨n, e0, hn⟩, ⟨m, e1, _⟩⟩ => ⟨⟨n, m⟩, by rw [e, e0, e1]; rfl, Nat.le_trans hn h0⟩
def TDb (b : Nat) (x : TD) : Prop := ∃ (ss : List Str) (fs : List FD), IsS eStr x.supers ss ∧ IsS eFD x.feats fs ∧ ss.length ≤ b ∧ fs.length ≤ b ∧ x.name.size ≤ b ∧ ∀ f ∈ fs, f.feat.size ≤ b
theorem rd_td : Rd enc Try.prog W spare held 123 fun b ts => ∃ x : TD, ts = eTD.enc x ∧ TDb b x :=
 (rd_struct3 Try.underlying123 rfl rfl rfl (by kernel_rfl) (by kernel_rfl) (by kernel_rfl) (by kernel_rfl) (rd_str Try.underlying9) rd_strs (rd_slice Try.underlying121 (by kernel_rfl) rd_fd)).mono
  fun b ts ⟨_, _, _, t0, t1, t2, h0, h1, h2, e, ⟨n, e0, hn⟩, ⟨x, l, e1, hx, hl⟩, ⟨y, m, e2, hy, hm, hf⟩⟩ => ⟨⟨n, x, y⟩, by rw [e, e0, e1, e2]; rfl, l, m, hx, hy, Nat.le_trans hl h1, Nat.le_trans hm h2, Nat.le_trans hn h0, fun f hf' => by
   obtain ⟨b', g1, g2⟩ := hf f hf'
   omega⟩
theorem TDb.ok {b : Nat} {x : TD} (h : TDb b x) (hb : b ≤ cap) : x.OK := by
 obtain ⟨ss, fs, h1, h2, h3, h4, h5, h6⟩ := h
 have e1 : x.ss = ss := TD.ss_eq h1
 have e2 : x.fs = fs := TD.fs_eq h2
 exact ⟨by rw [e1]; exact h1, by rw [e2]; exact h2, by rw [e1]; omega, by rw [e2]; omega, by omega, by rw [e2]; exact fun f hf => by have := h6 f hf; omega⟩
theorem read_decls {v : Value} {d : DataW H} {p : List MemPlace} (h : DataW.Trod enc Try.prog W 0 spare held 22 v d p) {a : Option Addr} {len cap' : Nat} (hv : v = .slice a len cap') (hb : Rows.uptoBulk d ≤ 1048576) :
  ∃ x l, IsS eTD x l ∧ (l.length ≤ 12 → DOK l) ∧ RepT (Old W) W x v := by
 obtain ⟨fuel, hf⟩ := h
 subst hv
 obtain ⟨ts, hr, x, l, e, hx, hl, ha⟩ := rd_slice (P := Try.prog) Try.underlying22 (by kernel_rfl) rd_td fuel _ d p hf
 refine ⟨x, l, hx, fun h12 => ⟨by omega, fun y hy => ?_⟩, ?_⟩
 ·obtain ⟨b', h1, h2⟩ := ha y hy
  exact h2.ok (by unfold cap; omega)
 ·have := hr.1
  rw [e] at this
  simp only [Value.cells, RepL] at this
  obtain ⟨z, zs, hz, h3, _⟩ := this
  simp at hz
  rw [hz.1]
  exact h3
theorem read_fs {v : Value} {d : DataW H} {p : List MemPlace} (h : DataW.Trod enc Try.prog W 0 spare held 25 v d p) {us : Array Value} (hv : v = .agg us) :
  ∃ x l, IsS eNd x l ∧ RepT (Old W) W (.ag [x]) v := by
 obtain ⟨fuel, hf⟩ := h
 subst hv
 obtain ⟨ts, hr, x, e, _, _⟩ := rd_fs fuel _ d p hf
 refine ⟨x.tree, x.nodes, x.ok, ?_⟩
 simp only [RepT]
 refine ⟨us, rfl, fun y hy => hr.2 y (by simpa [Value.cells] using hy), ?_⟩
 have := hr.1
 rw [e] at this
 simpa [Value.cells, eFS] using this
end
end Go.Proofs.Ytbiadmfmjnoecaa
