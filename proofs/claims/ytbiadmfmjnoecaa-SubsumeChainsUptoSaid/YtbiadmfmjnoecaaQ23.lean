/-
  The compact code of this seat's functions, printed by a program of mine (printm.lean), each checked by the kernel against the loaded program. No statement stands here.
  Plain: subsumption is reflexive and transitive; arcs that are sorted.
  Plain: the first type of a hierarchy is the most general one.
  The law SubsumeChains.
  An array of three feature structures that came in. No statement of the program stands here.
  PROVED: SubsumeChainsUptoSaid: for all declarations and feature structures of bulk at most 1048576 the law SubsumeChains returns true, and what came in reads behind the call as before. Its conditions are the statement's own.
-/
import Derived.Test.YtbiadmfmjnoecaaG
import Derived.Test.YtbiadmfmjnoecaaA16
import Derived.Test.YtbiadmfmjnoecaaQ17
import Derived.Test.YtbiadmfmjnoecaaQ18
import Derived.OpenShut
namespace Go.Proofs.Ytbiadmfmjnoecaa
set_option linter.unusedSimpArgs false
set_option linter.unusedVariables false
open Go Go.Abs
set_option maxRecDepth 100000
def M_w09_SubsumeChains : MCode := (.seq (.ops [⟨some 3, .box 45,[.tmp 1],none⟩,⟨some 4, .mv,[(.k (.t (.v (.bool false))))],none⟩]) (.seq (.ops [⟨some 19, .mv,[.tmp 0],none⟩,⟨some 20, .call 15,[.tmp 19],none⟩,⟨some 5, (.alloc 29 [(.slice none 0 0), (.slice none 0 0)]),[],none⟩,⟨none, .store 2,[.tmp 5,.tmp 20],none⟩]) (.seq (.drawG 3 [(.o ⟨some 21, (.aaddr 3 1),[.tmp 3, (.k (.t (.v (.int .i64 0))))],none⟩ false []), (.o ⟨some 22, .load true 1,[.tmp 21],none⟩ false []), (.o ⟨some 23, (.aaddr 3 1),[.tmp 3, (.k (.t (.v (.int .i64 1))))],none⟩ false []), (.o ⟨some 24, .load true 1,[.tmp 23],none⟩ true []), (.o ⟨some 25, (.aaddr 3 1),[.tmp 3, (.k (.t (.v (.int .i64 2))))],none⟩ false []), (.o ⟨some 26, .load true 1,[.tmp 25],none⟩ true []), (.g 0 ⟨some 6, (.alloc 25 [(.slice none 0 0)]),[],none⟩), (.g 1 ⟨some 7, (.alloc 25 [(.slice none 0 0)]),[],none⟩), (.g 2 ⟨some 8, (.alloc 25 [(.slice none 0 0)]),[],none⟩), (.o ⟨none, .store 1,[.tmp 6,.tmp 22],none⟩ false [3, 5]), (.o ⟨none, .store 1,[.tmp 7,.tmp 24],none⟩ false [5]), (.o ⟨none, .store 1,[.tmp 8,.tmp 26],none⟩ false [])]) (.seq (.seq (.ops [⟨some 27, .load true 2,[.tmp 5],none⟩,⟨some 28, .load true 1,[.tmp 6],none⟩,⟨some 29, .load true 1,[.tmp 7],none⟩,⟨some 30, .load true 1,[.tmp 8],none⟩,⟨some 31, (.bslice 25 1 [(.slice none 0 0)] 3 [0, 1, 2]),[.tmp 28,.tmp 29,.tmp 30],none⟩,⟨some 32, .call 16,[.tmp 27,.tmp 31],none⟩,⟨some 33, .un .not,[.tmp 32],none⟩]) (.cond (.tmp 33) (.seq (.ops [⟨some 34, .call 17,[],none⟩,⟨some 4, .mv,[.tmp 34],none⟩]) .ret) .skip)) (.seq (.ops [⟨some 36, .load true 2,[.tmp 5],none⟩,⟨some 37, .load true 1,[.tmp 6],none⟩,⟨some 38, .load true 1,[.tmp 7],none⟩,⟨some 39, .call 18,[.tmp 36,.tmp 37,.tmp 38],none⟩,⟨some 35, .mv,[.tmp 39],none⟩,⟨some 40, .ext 0,[.tmp 35],none⟩,⟨some 41, .ext 1,[.tmp 35],none⟩,⟨some 9, .mv,[.tmp 40],none⟩,⟨some 10, .mv,[.tmp 41],none⟩]) (.seq (.ops [⟨some 43, .load true 2,[.tmp 5],none⟩,⟨some 44, .load true 1,[.tmp 7],none⟩,⟨some 45, .load true 1,[.tmp 8],none⟩,⟨some 46, .call 18,[.tmp 43,.tmp 44,.tmp 45],none⟩,⟨some 42, .mv,[.tmp 46],none⟩,⟨some 47, .ext 0,[.tmp 42],none⟩,⟨some 48, .ext 1,[.tmp 42],none⟩,⟨some 11, .mv,[.tmp 47],none⟩,⟨some 12, .mv,[.tmp 48],none⟩]) (.seq (.ops [⟨some 50, .load true 2,[.tmp 5],none⟩,⟨some 51, .load true 1,[.tmp 6],none⟩,⟨some 52, .load true 1,[.tmp 8],none⟩,⟨some 53, .call 18,[.tmp 50,.tmp 51,.tmp 52],none⟩,⟨some 49, .mv,[.tmp 53],none⟩,⟨some 54, .ext 0,[.tmp 49],none⟩,⟨some 55, .ext 1,[.tmp 49],none⟩,⟨some 13, .mv,[.tmp 54],none⟩,⟨some 14, .mv,[.tmp 55],none⟩]) (.seq (.ops [⟨some 57, .load true 2,[.tmp 5],none⟩,⟨some 58, .load true 1,[.tmp 6],none⟩,⟨some 59, .load true 1,[.tmp 6],none⟩,⟨some 60, .call 18,[.tmp 57,.tmp 58,.tmp 59],none⟩,⟨some 56, .mv,[.tmp 60],none⟩,⟨some 61, .ext 0,[.tmp 56],none⟩,⟨some 62, .ext 1,[.tmp 56],none⟩,⟨some 15, .mv,[.tmp 61],none⟩,⟨some 16, .mv,[.tmp 62],none⟩]) (.seq (.seq (.draw [⟨some 63, .mv,[.tmp 16],none⟩,⟨some 64, .un .not,[.tmp 63],none⟩,⟨some 65, .mv,[.tmp 64],none⟩,⟨some 66, .mv,[.tmp 15],some (65, false)⟩,⟨some 67, .lensl,[.tmp 66],some (65, false)⟩,⟨some 68, .faddr 0,[.tmp 6],some (65, false)⟩,⟨some 69, .load false 1,[.tmp 68],some (65, false)⟩,⟨some 70, .lensl,[.tmp 69],some (65, false)⟩,⟨some 71, .bin false .neq none,[.tmp 67,.tmp 70],some (65, false)⟩,⟨some 72, .pick,[.tmp 65, (.k (.t (.v (.bool true)))),.tmp 71],none⟩,⟨some 73, .mv,[.tmp 72],none⟩,⟨some 74, .load true 2,[.tmp 5],some (73, false)⟩,⟨some 75, .call 28,[(.k (.t (.v (.int .i64 0))))],some (73, false)⟩,⟨some 76, .load true 1,[.tmp 6],some (73, false)⟩,⟨some 77, .call 21,[.tmp 74,.tmp 75,.tmp 76],some (73, false)⟩,⟨some 78, .un .not,[.tmp 77],some (73, false)⟩,⟨some 79, .pick,[.tmp 73, (.k (.t (.v (.bool true)))),.tmp 78],none⟩]) (.cond (.tmp 79) (.seq (.ops [⟨some 4, .mv,[(.k (.t (.v (.bool false))))],none⟩]) .ret) .skip)) (.seq (.seq (.ops [⟨some 80, .mv,[.tmp 15],none⟩,⟨some 81, .lensl,[.tmp 80],none⟩,⟨some 82, .mv,[(.k (.t (.v (.int .i64 0))))],none⟩]) (.block 0 (.loop (.seq (.ops [⟨some 83, .bin false .lss none,[.tmp 82,.tmp 81],none⟩]) (.seq (.cond (.tmp 83) .skip (.exit 0)) (.seq (.block 1 (.seq (.ops [⟨some 84, .mv,[.tmp 82],none⟩,⟨some 17, .mv,[.tmp 84],none⟩]) (.seq (.ops [⟨some 85, .mv,[.tmp 15],none⟩,⟨some 86, .mv,[.tmp 17],none⟩,⟨some 87, .iaddr 1,[.tmp 85,.tmp 86],none⟩,⟨some 88, .load false 1,[.tmp 87],none⟩,⟨some 89, .mv,[.tmp 17],none⟩,⟨some 90, .bin false .neq none,[.tmp 88,.tmp 89],none⟩]) (.cond (.tmp 90) (.seq (.ops [⟨some 4, .mv,[(.k (.t (.v (.bool false))))],none⟩]) .ret) .skip)))) (.ops [⟨some 91, .bin false .add none,[.tmp 82, (.k (.t (.v (.int .i64 1))))],none⟩,⟨some 82, .mv,[.tmp 91],none⟩]))))))) (.seq (.seq (.ops [⟨some 92, .mv,[.tmp 10],none⟩,⟨some 93, .un .not,[.tmp 92],none⟩,⟨some 94, .mv,[.tmp 93],none⟩,⟨some 95, .mv,[.tmp 12],some (94, false)⟩,⟨some 96, .un .not,[.tmp 95],some (94, false)⟩,⟨some 97, .pick,[.tmp 94, (.k (.t (.v (.bool true)))),.tmp 96],none⟩]) (.cond (.tmp 97) (.seq (.ops [⟨some 98, .call 17,[],none⟩,⟨some 4, .mv,[.tmp 98],none⟩]) .ret) .skip)) (.seq (.seq (.ops [⟨some 99, .mv,[.tmp 14],none⟩,⟨some 100, .un .not,[.tmp 99],none⟩,⟨some 101, .mv,[.tmp 100],none⟩,⟨some 102, .mv,[.tmp 13],some (101, false)⟩,⟨some 103, .lensl,[.tmp 102],some (101, false)⟩,⟨some 104, .faddr 0,[.tmp 6],some (101, false)⟩,⟨some 105, .load false 1,[.tmp 104],some (101, false)⟩,⟨some 106, .lensl,[.tmp 105],some (101, false)⟩,⟨some 107, .bin false .neq none,[.tmp 103,.tmp 106],some (101, false)⟩,⟨some 108, .pick,[.tmp 101, (.k (.t (.v (.bool true)))),.tmp 107],none⟩,⟨some 109, .mv,[.tmp 108],none⟩,⟨some 110, .mv,[.tmp 9],some (109, false)⟩,⟨some 111, .lensl,[.tmp 110],some (109, false)⟩,⟨some 112, .faddr 0,[.tmp 6],some (109, false)⟩,⟨some 113, .load false 1,[.tmp 112],some (109, false)⟩,⟨some 114, .lensl,[.tmp 113],some (109, false)⟩,⟨some 115, .bin false .neq none,[.tmp 111,.tmp 114],some (109, false)⟩,⟨some 116, .pick,[.tmp 109, (.k (.t (.v (.bool true)))),.tmp 115],none⟩,⟨some 117, .mv,[.tmp 116],none⟩,⟨some 118, .mv,[.tmp 11],some (117, false)⟩,⟨some 119, .lensl,[.tmp 118],some (117, false)⟩,⟨some 120, .faddr 0,[.tmp 7],some (117, false)⟩,⟨some 121, .load false 1,[.tmp 120],some (117, false)⟩,⟨some 122, .lensl,[.tmp 121],some (117, false)⟩,⟨some 123, .bin false .neq none,[.tmp 119,.tmp 122],some (117, false)⟩,⟨some 124, .pick,[.tmp 117, (.k (.t (.v (.bool true)))),.tmp 123],none⟩]) (.cond (.tmp 124) (.seq (.ops [⟨some 4, .mv,[(.k (.t (.v (.bool false))))],none⟩]) .ret) .skip)) (.seq (.seq (.ops [⟨some 125, .mv,[.tmp 13],none⟩,⟨some 126, .lensl,[.tmp 125],none⟩,⟨some 127, .mv,[(.k (.t (.v (.int .i64 0))))],none⟩]) (.block 2 (.loop (.seq (.ops [⟨some 128, .bin false .lss none,[.tmp 127,.tmp 126],none⟩]) (.seq (.cond (.tmp 128) .skip (.exit 2)) (.seq (.block 3 (.seq (.ops [⟨some 129, .mv,[.tmp 127],none⟩,⟨some 18, .mv,[.tmp 129],none⟩]) (.seq (.draw [⟨some 130, .mv,[.tmp 9],none⟩,⟨some 131, .mv,[.tmp 18],none⟩,⟨some 132, .iaddr 1,[.tmp 130,.tmp 131],none⟩,⟨some 133, .load false 1,[.tmp 132],none⟩,⟨some 134, .bin false .lss none,[.tmp 133, (.k (.t (.v (.int .i64 0))))],none⟩,⟨some 135, .mv,[.tmp 134],none⟩,⟨some 136, .mv,[.tmp 9],some (135, false)⟩,⟨some 137, .mv,[.tmp 18],some (135, false)⟩,⟨some 138, .iaddr 1,[.tmp 136,.tmp 137],some (135, false)⟩,⟨some 139, .load false 1,[.tmp 138],some (135, false)⟩,⟨some 140, .mv,[.tmp 11],some (135, false)⟩,⟨some 141, .lensl,[.tmp 140],some (135, false)⟩,⟨some 142, .bin false .geq none,[.tmp 139,.tmp 141],some (135, false)⟩,⟨some 143, .pick,[.tmp 135, (.k (.t (.v (.bool true)))),.tmp 142],none⟩,⟨some 144, .mv,[.tmp 143],none⟩,⟨some 145, .mv,[.tmp 13],some (144, false)⟩,⟨some 146, .mv,[.tmp 18],some (144, false)⟩,⟨some 147, .iaddr 1,[.tmp 145,.tmp 146],some (144, false)⟩,⟨some 148, .load false 1,[.tmp 147],some (144, false)⟩,⟨some 149, .mv,[.tmp 11],some (144, false)⟩,⟨some 150, .mv,[.tmp 9],some (144, false)⟩,⟨some 151, .mv,[.tmp 18],some (144, false)⟩,⟨some 152, .iaddr 1,[.tmp 150,.tmp 151],some (144, false)⟩,⟨some 153, .load false 1,[.tmp 152],some (144, false)⟩,⟨some 154, .iaddr 1,[.tmp 149,.tmp 153],some (144, false)⟩,⟨some 155, .load false 1,[.tmp 154],some (144, false)⟩,⟨some 156, .bin false .neq none,[.tmp 148,.tmp 155],some (144, false)⟩,⟨some 157, .pick,[.tmp 144, (.k (.t (.v (.bool true)))),.tmp 156],none⟩]) (.cond (.tmp 157) (.seq (.ops [⟨some 4, .mv,[(.k (.t (.v (.bool false))))],none⟩]) .ret) .skip)))) (.ops [⟨some 158, .bin false .add none,[.tmp 127, (.k (.t (.v (.int .i64 1))))],none⟩,⟨some 127, .mv,[.tmp 158],none⟩]))))))) (.seq (.ops [⟨some 159, .call 17,[],none⟩,⟨some 4, .mv,[.tmp 159],none⟩]) .ret))))))))))))))
theorem k_w09_SubsumeChains : FnOK Try.prog G 7 2 160 M_w09_SubsumeChains [(.tmp 4)] := ⟨Try.f7, Try.func7, by kernel_rfl, by kernel_rfl, by kernel_rfl, by kernel_rfl⟩
def M_graph_Atom : MCode := (.seq (.ops [⟨some 2, (.alloc 25 [(.slice none 0 0)]),[],none⟩]) (.seq (.ops [⟨some 3, .mv,[.tmp 0],none⟩,⟨some 4, (.build [(0, 1), (1, 1)] [(.int .i64 0), (.slice none 0 0)] [0]),[.tmp 3],none⟩,⟨some 5, (.bslice 61 2 [(.int .i64 0), (.slice none 0 0)] 1 [0]),[.tmp 4],none⟩,⟨some 6, (.build [(0, 1)] [(.slice none 0 0)] [0]),[.tmp 5],none⟩,⟨none, .store 1,[.tmp 2,.tmp 6],none⟩]) .ret))
theorem k_graph_Atom : FnOK Try.prog G 28 1 7 M_graph_Atom [(.cell 2 true 1)] := ⟨Try.f28, Try.func28, by kernel_rfl, by kernel_rfl, by kernel_rfl, by kernel_rfl⟩
end Go.Proofs.Ytbiadmfmjnoecaa

namespace Go.Proofs.Ytbiadmfmjnoecaa
set_option linter.unusedSimpArgs false
set_option linter.unusedVariables false
open Go Go.Abs

theorem and_not_iff {x y : W} : x &&& ~~~ y = 0 ↔ ∀ i, x.getLsbD i = true → y.getLsbD i = true := by
  constructor
  · intro h i hx
    have h1 := congrArg (fun v : W => v.getLsbD i) h
    simp only [BitVec.getLsbD_and, BitVec.getLsbD_not, hx, Bool.true_and] at h1
    have hi : i < 64 := by
      apply Classical.byContradiction
      intro hn
      rw [BitVec.getLsbD_of_ge _ _ (by omega)] at hx
      cases hx
    simp [hi] at h1
    exact h1
  · intro h
    refine BitVec.eq_of_getLsbD_eq fun i hi => ?_
    simp only [BitVec.getLsbD_and, BitVec.getLsbD_not]
    cases hx : x.getLsbD i with
    | false => simp
    | true => simp [h i hx]
theorem subL_refl (l : List W) : subL l l = true := (subL_iff l l).2 fun i => and_not_iff.2 fun _ h => h
theorem subL_trans {l m n : List W} (h : subL l m = true) (h' : subL m n = true) : subL l n = true :=
  (subL_iff l n).2 fun i => and_not_iff.2 fun j hj => and_not_iff.1 ((subL_iff m n).1 h' i) j (and_not_iff.1 ((subL_iff l m).1 h i) j hj)
theorem subL_anti {l m : List W} (h : subL l m = true) (h' : subL m l = true) (i : Nat) : wd l i = wd m i := by
  refine BitVec.eq_of_getLsbD_eq fun j _ => ?_
  have h1 := and_not_iff.1 ((subL_iff l m).1 h i) j
  have h2 := and_not_iff.1 ((subL_iff m l).1 h' i) j
  cases hx : (wd l i).getLsbD j with
  | true => exact (h1 hx).symm
  | false =>
    cases hy : (wd m i).getLsbD j with
    | false => rfl
    | true => rw [h2 hy] at hx; cases hx
theorem hsub_refl {ty : List Typ} {s : Int} (h0 : 0 ≤ s) (h : s < (ty.length : Int)) : hsub ty s s = true := by
  have : ty[s.toNat]? = some ty[s.toNat] := List.getElem?_eq_getElem (by omega)
  simp only [hsub, this]
  exact subL_refl _
theorem hsub_trans {ty : List Typ} {s t u : Int} (h : hsub ty s t = true) (h' : hsub ty t u = true) : hsub ty s u = true := by
  unfold hsub at h h' ⊢
  cases hs : ty[s.toNat]? with
  | none => rw [hs] at h; simp at h
  | some x =>
    cases ht : ty[t.toNat]? with
    | none => rw [hs, ht] at h; simp at h
    | some y =>
      cases hu : ty[u.toNat]? with
      | none => rw [ht, hu] at h'; simp at h'
      | some z =>
        rw [hs, ht] at h
        rw [ht, hu] at h'
        exact subL_trans h' h

/-! Composing. -/
section
variable {nt nf : Nat} {ty : List Typ} {a b c : List Nd}
def idN (n : Nat) : List Int := (List.range n).map fun i : Nat => (i : Int)
theorem nAt_idN {n i : Nat} (h : i < n) : nAt (idN n) i = (i : Int) := nAt_val (by simp [idN, List.getElem?_range h])
def compM (m n : List Int) : List Int := m.map fun i => nAt n i.toNat
theorem nAt_comp {m n : List Int} {i : Nat} (h : i < m.length) : nAt (compM m n) i = nAt n (nAt m i).toNat := by
  refine nAt_val ?_
  unfold compM
  rw [List.getElem?_map, nAt_get h]
  rfl
theorem ndAt_get {l : List Nd} {k : Int} (h0 : 0 ≤ k) (h : k < (l.length : Int)) : l[k.toNat]? = some (ndAt l k) := by
  have : k.toNat < l.length := by omega
  simp [ndAt, List.getElem?_eq_getElem this]
/-- The first arc with a feature is the arc. -/
theorem tgt_mem {x : Nd} (hx : ∀ (i j : Nat) p q, i < j → x.arcs[i]? = some p → x.arcs[j]? = some q → p.feat ≠ q.feat) {d : Arc} (hd : d ∈ x.arcs) : tgt x d.feat = d.to := by
  obtain ⟨n, h1, h2, h3⟩ := tgt_idx x d.feat
  obtain ⟨j, hj, e⟩ := List.getElem_of_mem hd
  have hj' : x.arcs[j]? = some d := by rw [List.getElem?_eq_getElem hj, e]
  rcases h3 with ⟨h4, h5, h6⟩ | ⟨q, h4, h5, h6, _⟩
  · exact absurd rfl (h2 j d (by omega) hj')
  · rw [h6]
    rcases Nat.lt_trichotomy j n with hlt | heq | hgt
    · exact absurd rfl (h2 j d hlt hj')
    · subst heq
      rw [h4] at hj'
      injection hj' with hj'
      rw [hj']
    · exact absurd h5 (hx n j q d hgt h4 hj')
theorem mor_id (ha : Valid ty.length nf a) : Mor ty a a (idN a.length) := by
  have hat : ∀ {i : Nat} {x : Nd}, a[i]? = some x → ndAt a (nAt (idN a.length) i) = x := fun {i x} hx => by
    rw [nAt_idN (List.getElem?_eq_some_iff.1 hx).1]
    exact ndAt_of hx
  refine ⟨by simp [idN], by rw [nAt_idN ha.form.pos]; rfl, fun i hi => by rw [nAt_idN hi]; omega, fun i x hx => ?_, fun i x hx d hd => ?_⟩
  · rw [hat hx]
    have hm := List.mem_of_getElem? hx
    exact hsub_refl (ha.form.type x hm) (ha.type x hm)
  · rw [hat hx]
    have hm := List.mem_of_getElem? hx
    obtain ⟨h0, h1⟩ := ha.form.to x hm d hd
    rw [tgt_mem (ha.form.apart x hm) hd, nAt_idN (by omega)]
    omega
theorem mor_comp {m n : List Int} (ha : Valid nt nf a) (h : Mor ty a b m) (h' : Mor ty b c n) : Mor ty a c (compM m n) := by
  have hc : ∀ i, i < a.length → nAt (compM m n) i = nAt n (nAt m i).toNat := fun i hi => nAt_comp (by rw [h.len]; exact hi)
  refine ⟨by simp [compM, h.len], ?_, fun i hi => ?_, fun i x hx => ?_, fun i x hx d hd => ?_⟩
  · rw [hc 0 ha.form.pos, h.root]
    exact h'.root
  · rw [hc i hi]
    have := h.rng i hi
    exact h'.rng _ (by omega)
  · have hi := (List.getElem?_eq_some_iff.1 hx).1
    rw [hc i hi]
    obtain ⟨h0, h1⟩ := h.rng i hi
    exact hsub_trans (h.type i x hx) (h'.type _ _ (ndAt_get h0 h1))
  · have hi := (List.getElem?_eq_some_iff.1 hx).1
    have hdm := ha.form.to x (List.mem_of_getElem? hx) d hd
    obtain ⟨h0, h1⟩ := h.rng i hi
    have hto := h.arc i x hx d hd
    obtain ⟨g0, g1⟩ := h.rng d.to.toNat (by omega)
    rw [hc i hi, hc d.to.toNat (by omega), ← hto]
    rw [← hto] at g0
    obtain ⟨q, hq, e⟩ := mem_tgt g0
    have hfeat : ∃ q ∈ (ndAt b (nAt m i)).arcs, q.feat = d.feat ∧ tgt (ndAt b (nAt m i)) d.feat = q.to := by
      obtain ⟨k, _, _, h3⟩ := tgt_idx (ndAt b (nAt m i)) d.feat
      rcases h3 with ⟨_, h5, _⟩ | ⟨q, h4, h5, h6, _⟩
      · omega
      · exact ⟨q, List.mem_of_getElem? h4, h5, h6⟩
    obtain ⟨q, hq, e1, e2⟩ := hfeat
    have := h'.arc _ _ (ndAt_get h0 h1) q hq
    rw [e1] at this
    rw [this, e2]
theorem comp_id {m n : List Int} (ha : Valid ty.length nf a) (h : Mor ty a b m) (h' : Mor ty b a n) : ∀ i, i < a.length → nAt n (nAt m i).toNat = (i : Int) := by
  intro i hi
  have e := (mor_comp ha h h').uniq ha (mor_id ha)
  have : nAt (compM m n) i = nAt (idN a.length) i := by rw [e]
  rw [nAt_comp (by rw [h.len]; exact hi), nAt_idN hi] at this
  exact this
theorem morB_iff : morB ty a b = true ↔ ∃ m, Mor ty a b m := by
  unfold morB
  exact @decide_eq_true_iff _ (_)
theorem morB_refl (ha : Valid ty.length nf a) : morB ty a a = true := morB_iff.2 ⟨_, mor_id ha⟩
theorem morB_trans (ha : Valid nt nf a) (h : morB ty a b = true) (h' : morB ty b c = true) : morB ty a c = true := by
  obtain ⟨m, hm⟩ := morB_iff.1 h
  obtain ⟨n, hn⟩ := morB_iff.1 h'
  exact morB_iff.2 ⟨_, mor_comp ha hm hn⟩
end
end Go.Proofs.Ytbiadmfmjnoecaa

namespace Go.Proofs.Ytbiadmfmjnoecaa
set_option linter.unusedSimpArgs false
set_option linter.unusedVariables false
open Go Go.Abs

/-! What is below the root. -/
theorem belowNext_mem {d : List TD} {s : Str} {todo : List Str} {x : TD} (hx : x ∈ d) (hs : s ∈ x.ss) : x.name ∈ belowNext d s todo := by
  unfold belowNext
  have key : ∀ (l : List TD) (acc : List Str), (x ∈ l ∨ x.name ∈ acc) → x.name ∈ l.foldl (belowIn s) acc := by
    intro l
    induction l with
    | nil => intro acc h; rcases h with h | h; cases h; exact h
    | cons y l ih =>
      intro acc h
      rw [List.foldl_cons]
      refine ih _ ?_
      rcases h with h | h
      · rcases List.mem_cons.1 h with rfl | h
        · right
          unfold belowIn
          rw [(hasS_iff _ _).2 hs]
          cases hc : hasS acc x.name with
          | true => simpa using (hasS_iff _ _).1 hc
          | false => simp
        · exact .inl h
      · right
        unfold belowIn
        split
        · exact List.mem_append_left _ h
        · exact h
  exact key d todo (.inl hx)
theorem workF_closed {d : List TD} : ∀ (f i : Nat) (todo : List Str), todo.Nodup → (∀ s ∈ todo, ∃ x ∈ d, x.name = s) → (∀ (j : Nat) s, j < i → todo[j]? = some s → ∀ x ∈ d, s ∈ x.ss → x.name ∈ todo) → d.length < f + i →
    ∀ s ∈ workF (belowNext d) f i todo, ∀ x ∈ d, s ∈ x.ss → x.name ∈ workF (belowNext d) f i todo
  | 0, i, todo, hn, hm, hc, hf => by
    intro s hs x hx hsx
    simp only [workF] at hs ⊢
    obtain ⟨j, hj, e⟩ := List.getElem_of_mem hs
    have := bound_in hn hm
    exact hc j s (by omega) (by rw [List.getElem?_eq_getElem hj, e]) x hx hsx
  | f + 1, i, todo, hn, hm, hc, hf => by
    intro s hs x hx hsx
    simp only [workF] at hs ⊢
    cases hi : todo[i]? with
    | none =>
      rw [hi] at hs
      simp only at hs ⊢
      obtain ⟨j, hj, e⟩ := List.getElem_of_mem hs
      have : todo.length ≤ i := by simpa using hi
      exact hc j s (by omega) (by rw [List.getElem?_eq_getElem hj, e]) x hx hsx
    | some u =>
      rw [hi] at hs
      simp only at hs ⊢
      have hg := belowUp_grow (d := d) u hn hm d.length (Nat.le_refl _)
      rw [belowUp_all] at hg
      refine workF_closed f (i + 1) _ hg.nodup hg.mem (fun j v hj hv y hy hvy => ?_) (by omega) s hs x hx hsx
      have hit : j < todo.length := by have := (List.getElem?_eq_some_iff.1 hi).1; omega
      have hv' : todo[j]? = some v := by
        obtain ⟨m, hm'⟩ := hg.pre
        rw [hm', List.getElem?_append_left hit] at hv
        exact hv
      by_cases e : j = i
      · subst e
        rw [hi] at hv'
        injection hv' with hv'
        subst hv'
        exact belowNext_mem hy hvy
      · have := hc j v (by omega) hv' y hy hvy
        obtain ⟨m, hm'⟩ := hg.pre
        rw [hm']
        exact List.mem_append_left _ this
theorem below_closed {d : List TD} {s u : Str} (hs : ∃ x ∈ d, x.name = s) (hu : u ∈ below d s) {x : TD} (hx : x ∈ d) (hux : u ∈ x.ss) : x.name ∈ below d s := by
  unfold below at hu ⊢
  split at hu
  · cases hu
  · rename_i hf
    rw [if_neg hf]
    refine mem_putAll.2 ?_
    exact workF_closed (d.length + 1) 0 [s] (by simp) (by simpa using hs) (fun j v hj => by omega) (by omega) u (mem_putAll.1 hu) x hx hux
theorem roots_one {d : List TD} (h : checkE d = 0) : roots d = 1 := by
  unfold checkE at h
  repeat' split at h
  all_goals first | (rename_i h1; exact absurd h h1) | cases h | skip
  all_goals (rename_i h4 _; exact Classical.byContradiction fun h' => h4 h')
theorem all_below {d : List TD} (hg : Good d) (h : checkE d = 0) : ∃ r ∈ d, ∀ x ∈ d, x.name ∈ below d r.name := by
  have h1 := roots_one h
  unfold roots at h1
  rw [List.countP_eq_length_filter] at h1
  obtain ⟨r, hr⟩ := List.length_eq_one_iff.1 h1
  have hrm : r ∈ d.filter fun x => x.ss.isEmpty := by rw [hr]; simp
  have hrd := (List.mem_filter.1 hrm).1
  refine ⟨r, hrd, ?_⟩
  have key : ∀ (n : Nat) (x : TD), x ∈ d → rk d x.name ≤ n → x.name ∈ below d r.name := by
    intro n
    induction n with
    | zero =>
      intro x hx hn
      cases hs : x.ss with
      | nil =>
        have : x ∈ d.filter fun x => x.ss.isEmpty := List.mem_filter.2 ⟨hx, by simp [hs]⟩
        rw [hr] at this
        simp only [List.mem_singleton] at this
        rw [this]
        exact self_below ⟨r, hrd, rfl⟩
      | cons u us => have := rk_lt hg hx (u := u) (by simp [hs]); omega
    | succ n ih =>
      intro x hx hn
      cases hs : x.ss with
      | nil =>
        have : x ∈ d.filter fun x => x.ss.isEmpty := List.mem_filter.2 ⟨hx, by simp [hs]⟩
        rw [hr] at this
        simp only [List.mem_singleton] at this
        rw [this]
        exact self_below ⟨r, hrd, rfl⟩
      | cons u us =>
        have hu : u ∈ x.ss := by simp [hs]
        have hlt := rk_lt hg hx hu
        obtain ⟨y, hy, rfl⟩ := hg.decl hx hu
        exact below_closed ⟨r, hrd, rfl⟩ (ih y hy (by omega)) hx hu
  exact fun x hx => key _ x hx (Nat.le_refl _)

/-! The greatest code. -/
def Within (n : Nat) (l : List W) : Prop := ∀ i, hasL l i = true → i < n
theorem hasL_and {x y : List W} {i : Nat} (h : hasL (andN x y) i = true) : hasL x i = true := by
  unfold hasL andN at h
  rw [wd_normL, wd_andL] at h
  unfold hasL
  simp only [BitVec.getLsbD_and, Bool.and_eq_true] at h
  exact h.1
theorem famStep_in {n i : Nat} {l : List (List W)} {k : Nat} (h : ∀ x ∈ l, Within n x) : ∀ x ∈ famStep i l k, Within n x := by
  unfold famStep
  split
  · split
    · exact h
    · intro x hx
      rcases List.mem_append.1 hx with hx | hx
      · exact h x hx
      · simp only [List.mem_singleton] at hx
        subst hx
        intro j hj
        have h1 := hasL_and hj
        by_cases hi : i < l.length
        · have e : l.getD i [] = l[i] := by simp [List.getD_eq_getElem?_getD, hi]
          rw [e] at h1
          exact h _ (List.getElem_mem hi) j h1
        · have e : l.getD i [] = [] := by simp [List.getD_eq_getElem?_getD, Nat.le_of_not_lt hi]
          rw [e] at h1
          simp [hasL, wd] at h1
  · exact h
theorem family_in {n : Nat} {l : List (List W)} (h : ∀ x ∈ l, Within n x) : ∀ x ∈ family l, Within n x := by
  have h1 : ∀ (i : Nat) (l : List (List W)) (k : Nat), (∀ x ∈ l, Within n x) → ∀ x ∈ famIn i l k, Within n x := by
    intro i l k hl
    induction k with
    | zero => exact hl
    | succ k ih => exact famStep_in ih
  have h2 : ∀ (f i : Nat) (l : List (List W)), (∀ x ∈ l, Within n x) → ∀ x ∈ famF f i l, Within n x := by
    intro f
    induction f with
    | zero => exact fun i l hl => hl
    | succ f ih =>
      intro i l hl
      unfold famF
      split
      · exact ih _ _ (h1 i l i hl)
      · exact hl
  exact h2 300 0 l h
theorem subL_of_has {x y : List W} (h : ∀ i, hasL x i = true → hasL y i = true) : subL x y = true := by
  refine (subL_iff x y).2 fun k => ?_
  refine BitVec.eq_of_getLsbD_eq fun j hj => ?_
  simp only [BitVec.getLsbD_and, BitVec.getLsbD_not, hj, decide_true, Bool.true_and]
  cases hx : (wd x k).getLsbD j with
  | false => simp
  | true =>
    have := h (64 * k + j) (by unfold hasL; rw [show (64 * k + j) / 64 = k by omega, show (64 * k + j) % 64 = j by omega]; exact hx)
    unfold hasL at this
    rw [show (64 * k + j) / 64 = k by omega, show (64 * k + j) % 64 = j by omega] at this
    simp [this]
theorem has_of_subL {x y : List W} (h : subL x y = true) (i : Nat) (hx : hasL x i = true) : hasL y i = true := by
  have h1 := (subL_iff x y).1 h (i / 64)
  have h2 := congrArg (fun v : W => v.getLsbD (i % 64)) h1
  unfold hasL at hx ⊢
  have hm : i % 64 < 64 := Nat.mod_lt _ (by omega)
  simp only [BitVec.getLsbD_and, BitVec.getLsbD_not, hx, hm, decide_true, Bool.true_and] at h2
  simpa using h2
theorem els_more (l : List W) : ∀ k, l.length ≤ k → (els l (64 * k)).length = cnt l := by
  intro k hk
  obtain ⟨m, rfl⟩ : ∃ m, k = l.length + m := ⟨k - l.length, by omega⟩
  induction m with
  | zero => exact els_all l
  | succ m ih =>
    have hw : wd l (l.length + m) = 0 := by simp [wd, List.getD_eq_getElem?_getD]
    have := els_word l (l.length + m) 64 (Nat.le_refl _)
    rw [show 64 * (l.length + (m + 1)) = 64 * (l.length + m) + 64 by omega, this, ih (by omega), hw]
    simp
theorem countP_lt {p q : Nat → Bool} (hs : ∀ i, p i = true → q i = true) {i : Nat} (hq : q i = true) (hp : p i = false) : ∀ n, i < n → ((List.range n).filter p).length < ((List.range n).filter q).length
  | 0, h => by omega
  | n + 1, h => by
    have mono : ∀ n, ((List.range n).filter p).length ≤ ((List.range n).filter q).length := by
      intro n
      rw [← List.countP_eq_length_filter, ← List.countP_eq_length_filter]
      exact List.countP_mono_left fun x _ hx => hs x hx
    rw [List.range_succ, List.filter_append, List.filter_append, List.length_append, List.length_append]
    by_cases e : i = n
    · subst e
      have := mono i
      simp [hp, hq]
      omega
    · have := countP_lt hs hq hp n (by omega)
      have h2 : ([n].filter p).length ≤ ([n].filter q).length := by
        cases h3 : p n with
        | false => simp [h3]
        | true => simp [h3, hs n h3]
      omega
/-- A part with as many elements is the whole. -/
theorem sub_full {x y : List W} (h : subL x y = true) (hc : cnt y ≤ cnt x) : subL y x = true := by
  refine subL_of_has fun i hy => Classical.byContradiction fun hx => ?_
  have hx : hasL x i = false := by simpa using hx
  obtain ⟨k, hk⟩ : ∃ k, k = x.length + y.length + i + 1 := ⟨_, rfl⟩
  have h1 := els_more x k (by omega)
  have h2 := els_more y k (by omega)
  have h3 := countP_lt (p := hasL x) (q := hasL y) (has_of_subL h) hy hx (64 * k) (by omega)
  unfold els at h1 h2
  rw [List.length_map] at h1 h2
  omega

/-! The first one has the most elements. -/
def HeadMax (l : List Co) : Prop := ∀ h, l[0]? = some h → ∀ y ∈ l, cnt y.code ≤ cnt h.code
theorem insAt_zero {x : Co} {out : List Co} : ∀ {k : Nat}, insAt x out k = 0 → ∀ j, j < k → before x (out.getD j default) = true
  | 0, _, j, hj => by omega
  | k + 1, h, j, hj => by
    unfold insAt at h
    split at h
    · rename_i hb
      by_cases e : j = k
      · subst e; exact hb
      · exact insAt_zero h j (by omega)
    · omega
theorem insAt_pos {x : Co} {out : List Co} {m : Nat} : ∀ {k : Nat}, insAt x out k = m + 1 → m < k ∧ before x (out.getD m default) = false
  | 0, h => by simp [insAt] at h
  | k + 1, h => by
    unfold insAt at h
    split at h
    · have := insAt_pos h; exact ⟨by omega, this.2⟩
    · rename_i hb
      have : m = k := by omega
      subst this
      exact ⟨by omega, by simpa using hb⟩
theorem headMax_ins {x : Co} {out : List Co} (h : HeadMax out) : HeadMax (ins x out) := by
  intro z hz y hy
  have hy' := mem_ins.1 hy
  unfold ins at hz
  cases hat : insAt x out out.length with
  | zero =>
    rw [hat] at hz
    simp at hz
    subst hz
    rcases hy' with rfl | hy'
    · exact Nat.le_refl _
    · obtain ⟨j, hj, e⟩ := List.getElem_of_mem hy'
      have := insAt_zero hat j hj
      rw [show out.getD j default = y by simp [List.getD_eq_getElem?_getD, hj, e]] at this
      unfold before at this
      simp only [Bool.or_eq_true, Bool.and_eq_true, decide_eq_true_eq] at this
      omega
  | succ m =>
    obtain ⟨hm, hb⟩ := insAt_pos hat
    rw [hat] at hz
    have hz0 : out[0]? = some z := by
      rw [List.append_assoc, List.getElem?_append_left (by simp; omega), List.getElem?_take, if_pos (by omega)] at hz
      exact hz
    rcases hy' with rfl | hy'
    · have h1 := h z hz0 (out.getD m default) (by rw [show out.getD m default = out[m] by simp [List.getD_eq_getElem?_getD, hm]]; exact List.getElem_mem hm)
      unfold before at hb
      simp only [Bool.or_eq_false_iff, decide_eq_false_iff_not] at hb
      omega
    · exact h z hz0 y hy'
theorem headMax_coUp (d : List TD) (all : List Str) (codes f : List (List W)) : ∀ j, HeadMax (coUp d all codes f j)
  | 0 => fun h hh => by simp [coUp] at hh
  | j + 1 => by simp only [coUp]; exact headMax_ins (headMax_coUp d all codes f j)

/-- The first type is the most general one. -/
def TyTop (ty : List Typ) : Prop := ∀ j, j < ty.length → hsub ty 0 (j : Int) = true
theorem code_full {d : List TD} (hg : Good d) (h : checkE d = 0) : ∃ c ∈ family (codesOf d), ∀ y ∈ family (codesOf d), subL y c = true := by
  obtain ⟨r, hr, hall⟩ := all_below hg h
  have hl : (names d).length ≤ 256 := Nat.le_trans (length_names d) hg.len
  have hrn : r.name ∈ names d := mem_names.2 ⟨r, hr, rfl⟩
  obtain ⟨r', hr'⟩ := (famF_fam 300 0 (codesOf d)).pre
  refine ⟨codeW d (names d) r.name, ?_, fun y hy => ?_⟩
  · show _ ∈ famF 300 0 (codesOf d)
    rw [hr']
    exact List.mem_append_left _ (List.mem_map_of_mem hrn)
  · have hin := family_in (n := (names d).length) (l := codesOf d) (fun x hx => by
      obtain ⟨s, _, rfl⟩ := List.mem_map.1 hx
      intro i hi
      rw [has_codeW hl] at hi
      simp only [Bool.and_eq_true, decide_eq_true_eq] at hi
      exact hi.1) y hy
    refine subL_of_has fun i hi => ?_
    have hlt := hin i hi
    rw [has_codeW hl, decide_eq_true hlt, Bool.true_and]
    obtain ⟨x, hx, e⟩ := mem_names.1 (List.getElem_mem hlt)
    rw [show (names d).getD i emptyS = x.name by simp [List.getD_eq_getElem?_getD, hlt, e]]
    exact (hasS_iff _ _).2 (hall x hx)
theorem hier_top {d : List TD} (hg : Good d) (h : checkE d = 0) : TyTop (hierL d) := by
  intro j hj
  have hlen := hierL_len d
  have hj' : j < (codesL d).length := by omega
  obtain ⟨c, hc, hall⟩ := code_full hg h
  have hmem : ∀ co ∈ codesL d, co.code ∈ family (codesOf d) := by
    intro co hco
    obtain ⟨i, x, _, h2, rfl⟩ := (mem_coUp (Nat.le_refl _)).1 hco
    exact List.mem_of_getElem? h2
  have hmax := headMax_coUp d (names d) (codesOf d) (family (codesOf d)) (family (codesOf d)).length
  have h0 : (codesL d)[0]? = some (codesL d)[0] := List.getElem?_eq_getElem (by omega)
  obtain ⟨i, hi, ei⟩ := List.getElem_of_mem hc
  have hcm : mkCo d (names d) (codesOf d) c ∈ codesL d := (mem_coUp (Nat.le_refl _)).2 ⟨i, c, hi, by rw [List.getElem?_eq_getElem hi, ei], rfl⟩
  have h1 := hmax _ h0 _ hcm
  have h2 := sub_full (hall _ (hmem _ (List.getElem_mem (by omega : 0 < (codesL d).length)))) h1
  have code : ∀ k, k < (codesL d).length → ∃ x, (hierL d)[k]? = some x ∧ ∃ co ∈ codesL d, (codesL d)[k]? = some co ∧ x.code = co.code := by
    intro k hk
    have : ∀ n, n ≤ (codesL d).length → k < n → ∃ x, (tyUp d n)[k]? = some x ∧ ∃ co ∈ codesL d, (codesL d)[k]? = some co ∧ x.code = co.code := by
      intro n
      induction n with
      | zero => intro _ h; omega
      | succ n ih =>
        intro hn hkn
        have hx : (codesL d)[n]? = some (codesL d)[n] := List.getElem?_eq_getElem (by omega)
        simp only [tyUp, hx]
        have hl := tyUp_len d (i := n) (by omega)
        by_cases e : k = n
        · subst e
          refine ⟨mkTyp d k (codesL d)[k], by rw [List.getElem?_append_right (by omega)]; simp [hl], _, List.getElem_mem (by omega), hx, rfl⟩
        · obtain ⟨x, h3, h4⟩ := ih (by omega) (by omega)
          exact ⟨x, by rw [List.getElem?_append_left (by omega)]; exact h3, h4⟩
    exact this _ (Nat.le_refl _) hk
  obtain ⟨x0, e0, co0, _, k0, f0⟩ := code 0 (by omega)
  obtain ⟨xj, ej, coj, mj, kj, fj⟩ := code j hj'
  rw [h0] at k0
  injection k0 with k0
  unfold hsub
  rw [show ((0 : Int)).toNat = 0 by rfl, e0, show ((j : Int)).toNat = j by omega, ej]
  simp only
  rw [f0, fj, ← k0]
  refine subL_of_has fun i hi => has_of_subL h2 i ?_
  exact has_of_subL (hall _ (hmem _ mj)) i hi
theorem check_of_check5 {d : List TD} (h : check5E d = 0) : checkE d = 0 := by
  unfold check5E at h
  have h1 : codesE d = 0 := Classical.byContradiction fun h1 => by rw [if_pos h1] at h; exact h1 h
  unfold codesE at h1
  exact Classical.byContradiction fun h2 => by rw [if_pos h2] at h1; exact h2 h1
theorem hOf_top {d : List TD} (hd : d.length ≤ 12 → DOK d) : TyTop (hOf d).1 := by
  unfold hOf
  split
  · rename_i h
    exact hier_top (fit_of_check (hd h.1) h.2).good (check_of_check5 h.2)
  · split
    · rename_i h
      exact hier_top (fit_of_check prel_ok h).good (check_of_check5 h)
    · intro j hj
      simp at hj
end Go.Proofs.Ytbiadmfmjnoecaa

namespace Go.Proofs.Ytbiadmfmjnoecaa
set_option linter.unusedSimpArgs false
set_option linter.unusedVariables false
open Go Go.Abs

/-! A node without arcs. -/
def atomN (n : Int) : List Nd := [⟨n, nilS, [], IsS.nil⟩]
theorem atom_is (n : Int) : IsS eNd (.sl 1 [iv n, nilS]) (atomN n) := .inr rfl
theorem atom_call (n : Int) : CallT Try.prog G 28 [iv n] (· = .ag [.sl 1 [iv n, nilS]]) := by
  have ok : TblOK Try.prog G [] := .nil
  have f1 : fillP (fun k => [((0 : Nat), (1 : Nat)), (1, 1)][k]?) [.t (iv 0), .t nilS] [((0 : Nat), .t (iv n))] = some [.t (iv n), .t nilS] := rfl
  have a1 : agOf [.t (iv n), .t nilS] = .t (.ag [iv n, nilS]) := rfl
  have b1 : bsliceM 61 2 [.int .i64 0, .slice none 0 0] 1 [((0 : Nat), .t (.ag [iv n, nilS]))] 1 = some (.row 1 0 1 2, .cells 61 [.t (iv n), .t nilS]) := rfl
  have f2 : fillP (fun k => [((0 : Nat), (1 : Nat))][k]?) [.t nilS] [((0 : Nat), .row 1 0 1 2)] = some [.row 1 0 1 2] := rfl
  have a2 : agOf [.row 1 0 1 2] = .ag [.row 1 0 1 2] := rfl
  refine k_graph_Atom.runs (ok.ctx mixed) rfl ?_
  simp -implicitDefEqProofs [M_graph_Atom, f1, a1, b1, f2, a2, cellsP, loadM, storeM, splice]
def gAt : List T → Option T
  | [.v (.int .i64 n)] => some (.ag [.sl 1 [iv n, nilS]])
  | _ => none
theorem gAt_ok : GOK Try.prog G 28 gAt := by
  intro args r h
  unfold gAt at h
  split at h
  · injection h with h; subst h; exact atom_call _
  · cases h
theorem gAt_eq (n : Int) : gAt [iv n] = some (.ag [.sl 1 [iv n, nilS]]) := rfl
theorem atom_valid {nt nf : Nat} (h : 0 < nt) : Valid nt nf (atomN 0) := by
  refine ⟨⟨by simp [atomN], by simp [atomN], ?_, ?_, ?_, ?_⟩, ?_, ?_, rfl⟩
  all_goals (intro x hx; simp only [atomN, List.mem_singleton] at hx; subst hx; simp)
  omega
theorem atom_small : Small (atomN 0) := ⟨by simp [atomN], by simp [atomN]⟩
theorem atom_mor {nf : Nat} {ty : List Typ} {a : List Nd} (ht : TyTop ty) (ha : Valid ty.length nf a) : Mor ty (atomN 0) a [0] := by
  refine ⟨rfl, rfl, fun i hi => ?_, fun i x hx => ?_, fun i x hx c hc => ?_⟩
  · have : i = 0 := by simpa [atomN] using hi
    subst this
    have := ha.form.pos
    exact ⟨by simp [nAt], by simp [nAt]; omega⟩
  · have hi : i = 0 := by have := (List.getElem?_eq_some_iff.1 hx).1; simpa [atomN] using this
    subst hi
    have : x.type = 0 := by simp [atomN] at hx; rw [← hx]
    rw [this]
    have h0 := ha.form.pos
    have e : ndAt a (nAt [0] 0) = a[0] := by simp [ndAt, nAt, h0]
    rw [e]
    have h1 := ha.form.type _ (List.getElem_mem h0)
    have h2 := ha.type _ (List.getElem_mem h0)
    obtain ⟨j, hj⟩ : ∃ j : Nat, a[0].type = (j : Int) := ⟨a[0].type.toNat, by omega⟩
    rw [hj]
    exact ht j (by omega)
  · have hi : i = 0 := by have := (List.getElem?_eq_some_iff.1 hx).1; simpa [atomN] using this
    subst hi
    simp [atomN] at hx
    rw [← hx] at hc
    cases hc

theorem mapT_inv {ty : List Typ} {a b : List Nd} {t : T} (h : mapT ty a b = .tu [t, bv true]) : ∃ m, Mor ty a b m ∧ t = treeS eInt m := by
  unfold mapT at h
  split at h
  · rename_i hx
    injection h with h
    injection h with h1 _
    exact ⟨_, hx.choose_spec, h1.symm⟩
  · injection h with h
    injection h with _ h2
    injection h2 with h2
    injection h2 with h2
    injection h2 with h2
    cases h2

noncomputable def tw26 : Tbl := [(15, gHier), (16, gFits), (17, gEx), (18, gMap), (21, gSubs9), (28, gAt)]
theorem ctw26 : Ctx Try.prog G (orc tw26) := (TblOK.cons gHier_ok (.cons gFits_ok (.cons gEx_ok (.cons (gMap_ok smap_call) (.cons ssubs_ok (.cons gAt_ok .nil)))))).ctx mixed
def RC (u v ta tb tc : T) : Heap := [(7, .cells 25 [.t tc]), (6, .cells 25 [.t tb]), (5, .cells 25 [.t ta]), (1, .cells 29 [.t u, .t v])]
def SCh1 (u v ta tb tc tm tn tx ts : T) (ok is has : Bool) (n j : Nat) : AState := ⟨[(82, .t (iv (j : Int))), (81, .t (iv (n : Int))), (15, .t ts), (14, .t (bv has)), (13, .t tx), (12, .t (bv is)), (11, .t tn), (10, .t (bv ok)), (9, .t tm), (7, .ptr 6 0), (6, .ptr 5 0)], RC u v ta tb tc, 9, 160⟩
def SCh2 (u v ta tb tc tm tn tx : T) (n j : Nat) : AState := ⟨[(127, .t (iv (j : Int))), (126, .t (iv (n : Int))), (13, .t tx), (11, .t tn), (9, .t tm)], RC u v ta tb tc, 9, 160⟩
set_option maxHeartbeats 4000000 in
theorem chains_law {t ta tb tc : T} {d : List TD} {a b c : List Nd} (ht : IsS eTD t d) (hd : d.length ≤ 12 → DOK d) (hta : IsS eNd ta a) (htb : IsS eNd tb b) (htc : IsS eNd tc c) : CallT Try.prog G 7 [t, .ag [ta, tb, tc]] (· = .v (.bool true)) := by
  have gh := gHier_eq ht hd
  obtain ⟨h, hh⟩ : ∃ h, h = hOf d := ⟨_, rfl⟩
  obtain ⟨u, hu'⟩ : ∃ u, u = treeS eTyp h.1 := ⟨_, rfl⟩
  obtain ⟨v, hv'⟩ : ∃ v, v = treeS eFt h.2 := ⟨_, rfl⟩
  have hu : IsS eTyp u h.1 := hu' ▸ IsS.tree _ _
  have hv : IsS eFt v h.2 := hv' ▸ IsS.tree _ _
  have hTd : hT d = .ag [u, v] := by unfold hT; rw [← hh, hu', hv']
  rw [hTd] at gh
  have c0 : cellsP (.t (.ag [ta, tb, tc])) = some [.t ta, .t tb, .t tc] := rfl
  have c1 : cellsP (.t (.ag [u, v])) = some [.t u, .t v] := rfl
  have cc : ∀ x : T, cellsP (.t (.ag [x])) = some [.t x] := fun _ => rfl
  have a1 : agOf [.t u, .t v] = .t (.ag [u, v]) := rfl
  have aa : ∀ x : T, agOf [.t x] = .t (.ag [x]) := fun _ => rfl
  have hsl : IsS eFS (.sl 3 [ta, tb, tc]) [⟨ta, a, hta⟩, ⟨tb, b, htb⟩, ⟨tc, c, htc⟩] := .inr rfl
  have gf := gFits_eq hu hv hsl (by simp)
  have bs : bsliceM 25 1 [.slice none 0 0] 3 [(0, .t (.ag [ta])), (1, .t (.ag [tb])), (2, .t (.ag [tc]))] 8 = some (.row 8 0 3 1, .cells 25 [.t ta, .t tb, .t tc]) := by
    rcases hta with ⟨rfl, _⟩ | rfl <;> rcases htb with ⟨rfl, _⟩ | rfl <;> rcases htc with ⟨rfl, _⟩ | rfl <;> rfl
  refine k_w09_SubsumeChains.call rfl ?_
  unfold M_w09_SubsumeChains
  refine mc_seq_runs ctw26 ?_
  simp -implicitDefEqProofs [c0]
  refine mc_seq_runs ctw26 ?_
  simp -implicitDefEqProofs [tw26, gh, storeM, c1, splice]
  refine mc_seq_runs ctw26 ?_
  simp -implicitDefEqProofs [loadM, storeM, cc, aa, splice, aaddrM]
  cases hf : fitsB h.1.length h.2.length [⟨ta, a, hta⟩, ⟨tb, b, htb⟩, ⟨tc, c, htc⟩] with
  | false =>
    rw [hf] at gf
    refine mc_seq_runs ctw26 ?_
    simp -implicitDefEqProofs [loadM, a1, aa, bs, tw26, gf, gEx_eq]
  | true =>
    rw [hf] at gf
    have hall := fits_true hf
    have hA := hall ⟨ta, a, hta⟩ (by simp)
    have hB := hall ⟨tb, b, htb⟩ (by simp)
    have hC := hall ⟨tc, c, htc⟩ (by simp)
    have ok := hOf_ok hd
    have htop := hOf_top hd
    rw [← hh] at ok htop
    have hnt : 0 < h.1.length := by
      have h0 := hA.2.form.pos
      have h1 := hA.2.form.type _ (List.getElem_mem h0)
      have h2 := hA.2.type _ (List.getElem_mem h0)
      simp only at h1 h2
      omega
    have gab := gMap_eq hu hv hta htb ⟨ok, ⟨hA.2, hB.2⟩, hA.1, hB.1⟩
    have gbc := gMap_eq hu hv htb htc ⟨ok, ⟨hB.2, hC.2⟩, hB.1, hC.1⟩
    have gac := gMap_eq hu hv hta htc ⟨ok, ⟨hA.2, hC.2⟩, hA.1, hC.1⟩
    have gaa := gMap_eq hu hv hta hta ⟨ok, ⟨hA.2, hA.2⟩, hA.1, hA.1⟩
    have gat := gSubs9_eq hu hv (atom_is 0) hta ⟨ok, ⟨atom_valid hnt, hA.2⟩, atom_small, hA.1⟩
    rw [morB_iff.2 ⟨_, atom_mor htop hA.2⟩] at gat
    rw [mapT_some hA.2 (mor_id hA.2)] at gaa
    obtain ⟨tm, ok, hmab⟩ : ∃ tm ok, mapT h.1 a b = .tu [tm, bv ok] := by
      obtain ⟨l, e, _⟩ := mapT_eq h.1 a b
      exact ⟨_, _, e⟩
    obtain ⟨tn, is, hmbc⟩ : ∃ tm ok, mapT h.1 b c = .tu [tm, bv ok] := by
      obtain ⟨l, e, _⟩ := mapT_eq h.1 b c
      exact ⟨_, _, e⟩
    obtain ⟨tx, has, hmac⟩ : ∃ tm ok, mapT h.1 a c = .tu [tm, bv ok] := by
      obtain ⟨l, e, _⟩ := mapT_eq h.1 a c
      exact ⟨_, _, e⟩
    rw [hmab] at gab
    rw [hmbc] at gbc
    rw [hmac] at gac
    have hla : a.length ≤ 100000 := hA.1.len
    have hlb : b.length ≤ 100000 := hB.1.len
    obtain ⟨ts, hts'⟩ : ∃ ts, ts = treeS eInt (idN a.length) := ⟨_, rfl⟩
    have hts : IsS eInt ts (idN a.length) := hts' ▸ IsS.tree _ _
    rw [← hts'] at gaa
    have hidl : (idN a.length).length = a.length := by simp [idN]
    have lts : lenslM (.t ts) = some (.t (iv (a.length : Int))) := by have := hts.len; rwa [hidl] at this
    have lta := hta.len
    have ltb := htb.len
    refine mc_seq_runs ctw26 ?_
    simp -implicitDefEqProofs [loadM, a1, aa, bs, tw26, gf]
    refine mc_seq_runs ctw26 ?_
    simp -implicitDefEqProofs [loadM, a1, aa, tw26, gab, extractV]
    refine mc_seq_runs ctw26 ?_
    simp -implicitDefEqProofs [loadM, a1, aa, tw26, gbc, extractV]
    refine mc_seq_runs ctw26 ?_
    simp -implicitDefEqProofs [loadM, a1, aa, tw26, gac, extractV]
    refine mc_seq_runs ctw26 ?_
    simp -implicitDefEqProofs [loadM, a1, aa, tw26, gaa, extractV]
    refine mc_seq_runs ctw26 ?_
    simp -implicitDefEqProofs (maxDischargeDepth := 8) [loadM, a1, aa, tw26, gat, gAt_eq, lts, lta]
    have lp : ∀ c cs, loadM false 1 (RC u v ta tb tc) (.t (.pt (c :: cs))) = some (.t c) := fun _ _ => rfl
    refine mc_cut (fun _ : Unit => SCh1 u v ta tb tc tm tn tx ts ok is has a.length a.length) (fun _ => True) (fun _ => rfl) ?_ ?_
    · refine mc_seq_runs ctw26 ?_
      simp -implicitDefEqProofs [lts]
      refine mc_block ?_
      refine mc_for (SCh1 u v ta tb tc tm tn tx ts ok is has a.length) a.length (fun _ => rfl) ?_ rfl ?_ ?_
      · refine sub_forget rfl rfl ?_ ?_ <;> simp -implicitDefEqProofs [SCh1, RC]
      · intro j hj
        have ix := ia_int hts (i := j) (x := (j : Int)) (by simp [idN, List.getElem?_range hj])
        have e1 : IntKind.i64.wrap ((j : Int) + 1) = ((j + 1 : Nat) : Int) := wrap_nat (by omega) (by omega)
        refine mc_runs ctw26 ?_
        simp -implicitDefEqProofs [SCh1, hj, ix, lp, e1]
        exact sub_env (by simp -implicitDefEqProofs)
      · refine mc_runs ctw26 ?_
        simp -implicitDefEqProofs [SCh1]
        exact Next.mk () trivial (sub_env (by simp -implicitDefEqProofs))
    rintro _ -
    cases ok with
    | false =>
      refine mc_seq_runs ctw26 ?_
      simp -implicitDefEqProofs [SCh1, tw26, gEx_eq]
    | true =>
      cases is with
      | false =>
        refine mc_seq_runs ctw26 ?_
        simp -implicitDefEqProofs [SCh1, tw26, gEx_eq]
      | true =>
        obtain ⟨m, hm, rfl⟩ := mapT_inv hmab
        obtain ⟨n, hn, rfl⟩ := mapT_inv hmbc
        have hx := mor_comp hA.2 hm hn
        rw [mapT_some hA.2 hx] at hmac
        injection hmac with hmac
        injection hmac with hmac1 hmac
        injection hmac with hmac2 _
        injection hmac2 with hmac2
        injection hmac2 with hmac2
        subst hmac2
        subst hmac1
        have hml : m.length = a.length := hm.len
        have hnl : n.length = b.length := hn.len
        have hxl : (compM m n).length = a.length := by simp [compM, hml]
        obtain ⟨tm, htm'⟩ : ∃ tm, tm = treeS eInt m := ⟨_, rfl⟩
        have htm : IsS eInt tm m := htm' ▸ IsS.tree _ _
        obtain ⟨tn, htn'⟩ : ∃ tn, tn = treeS eInt n := ⟨_, rfl⟩
        have htn : IsS eInt tn n := htn' ▸ IsS.tree _ _
        obtain ⟨tx, htx'⟩ : ∃ tx, tx = treeS eInt (compM m n) := ⟨_, rfl⟩
        have htx : IsS eInt tx (compM m n) := htx' ▸ IsS.tree _ _
        rw [← htm', ← htn', ← htx']
        have ltm : lenslM (.t tm) = some (.t (iv (a.length : Int))) := by have := htm.len; rwa [hml] at this
        have ltn : lenslM (.t tn) = some (.t (iv (b.length : Int))) := by have := htn.len; rwa [hnl] at this
        have ltx : lenslM (.t tx) = some (.t (iv (a.length : Int))) := by have := htx.len; rwa [hxl] at this
        refine mc_seq_runs ctw26 ?_
        simp -implicitDefEqProofs [SCh1, RC]
        refine mc_seq_runs ctw26 ?_
        simp -implicitDefEqProofs (maxDischargeDepth := 12) [loadM, ltm, ltn, ltx, lta, ltb]
        refine mc_cut (fun _ : Unit => SCh2 u v ta tb tc tm tn tx a.length a.length) (fun _ => True) (fun _ => rfl) ?_ ?_
        · refine mc_seq_runs ctw26 ?_
          simp -implicitDefEqProofs [ltx]
          refine mc_block ?_
          refine mc_for (SCh2 u v ta tb tc tm tn tx a.length) a.length (fun _ => rfl) ?_ rfl ?_ ?_
          · refine sub_forget rfl rfl ?_ ?_ <;> simp -implicitDefEqProofs [SCh2, RC]
          · intro j hj
            obtain ⟨r0, r1⟩ := hm.rng j hj
            obtain ⟨k, hk⟩ : ∃ k : Nat, nAt m j = (k : Int) := ⟨(nAt m j).toNat, by omega⟩
            have hkb : k < b.length := by omega
            have im := ia_int htm (nAt_get (by omega : j < m.length))
            rw [hk] at im
            have iN := ia_int htn (nAt_get (by omega : k < n.length))
            have ix := ia_int htx (nAt_get (by omega : j < (compM m n).length))
            rw [nAt_comp (by omega), hk, Int.toNat_natCast] at ix
            have e1 : IntKind.i64.wrap ((j : Int) + 1) = ((j + 1 : Nat) : Int) := wrap_nat (by omega) (by omega)
            have n0 : ¬ ((k : Int) < 0) := by omega
            have n1 : ¬ ((b.length : Int) ≤ (k : Int)) := by omega
            have n2 : ¬ (b.length ≤ k) := by omega
            refine mc_runs ctw26 ?_
            simp -implicitDefEqProofs (maxDischargeDepth := 12) [SCh2, hj, im, iN, ix, lp, e1, n0, n1, n2, ltn]
            exact sub_env (by simp -implicitDefEqProofs)
          · refine mc_runs ctw26 ?_
            simp -implicitDefEqProofs [SCh2]
            exact Next.mk () trivial (sub_env (by simp -implicitDefEqProofs))
        rintro _ -
        refine mc_runs ctw26 ?_
        simp -implicitDefEqProofs [SCh2, tw26, gEx_eq]
end Go.Proofs.Ytbiadmfmjnoecaa

namespace Go.Proofs.Ytbiadmfmjnoecaa
set_option linter.unusedSimpArgs false
set_option linter.unusedVariables false
open Go Go.Abs Go.ChangeShapes Go.WideShapes Go.ChangeAt Go.RowKit
theorem read_fs3 {H : Type} {enc : TypeId × Value → H} {W : World} {spare : Nat → Bool} {held : Bool} {v : Value} {d : DataW H} {p : List MemPlace} (h : DataW.Trod enc Try.prog W 0 spare held 45 v d p) :
    ∃ x y z l m n, IsS eNd x l ∧ IsS eNd y m ∧ IsS eNd z n ∧ RepT (Old W) W (.ag [x, y, z]) v := by
  obtain ⟨fuel, hf⟩ := h
  obtain ⟨xs, k, _, _, hl, hn, hx⟩ := DataW.trod_array Try.underlying45 hf
  have c1 : Try.prog.cellsOf 25 = 1 := by kernel_rfl
  have c3 : Try.prog.cellsOf 45 = 3 := by kernel_rfl
  rw [c3] at hl
  obtain ⟨us, rfl⟩ : ∃ us, v = .agg us := by
    cases v <;> simp [Value.cells] at hl
    exact ⟨_, rfl⟩
  have hc : (Value.agg us).cells.toList = us.toList := rfl
  rw [hc] at hl hx
  match hus : us.toList, hl with
  | [u0, u1, u2], _ =>
    rw [hus, c1] at hx
    have part : ∀ (i : Nat) u, i < 3 → ([u0, u1, u2].drop (i * 1)).take 1 = [u] → ∃ x l, IsS eNd x l ∧ RepT (Old W) W x u ∧ u.oneCell' = true := by
      intro i u hi hu
      have h1 := hx i hi
      rw [hu, List.getElem?_eq_getElem (by omega)] at h1
      obtain ⟨ts, hr, x, e, _, _⟩ := rd_fs k _ _ _ h1
      refine ⟨x.tree, x.nodes, x.ok, ?_, hr.2 u (by simp)⟩
      have := hr.1
      rw [e] at this
      simp only [eFS, RepL] at this
      obtain ⟨z, zs, hz, h3, _⟩ := this
      simp at hz
      rw [hz.1]
      exact h3
    obtain ⟨x, l, i0, r0, o0⟩ := part 0 u0 (by omega) rfl
    obtain ⟨y, m, i1, r1, o1⟩ := part 1 u1 (by omega) rfl
    obtain ⟨z, n, i2, r2, o2⟩ := part 2 u2 (by omega) rfl
    refine ⟨x, y, z, l, m, n, i0, i1, i2, ?_⟩
    simp only [RepT]
    refine ⟨us, rfl, ?_, ?_⟩
    · intro w hw
      rw [hus] at hw
      simp only [List.mem_cons, List.not_mem_nil, or_false] at hw
      rcases hw with rfl | rfl | rfl <;> assumption
    · rw [hus]
      simp only [RepL]
      exact ⟨_, _, rfl, r0, _, _, rfl, r1, _, _, rfl, r2, rfl⟩
end Go.Proofs.Ytbiadmfmjnoecaa

namespace Go.Proofs.Ytbiadmfmjnoecaa.subsumeChains
set_option linter.unusedSimpArgs false
set_option linter.unusedVariables false
open Go Go.Abs Go.ChangeShapes Go.WideShapes Go.ChangeAt Go.RowKit

theorem own : ownKnob Try.prog.godebug = none := by kernel_rfl
theorem laidOut : laidOutB Try.prog = true := by kernel_rfl

set_option maxRecDepth 100000 in
theorem contract (H : Type) (enc : TypeId × Value → H) (W : World) (base : Nat) (args : Array Value) (ds gs : List (DataW H)) (before : List MemPlace)
    (hval : ∀ (j : Nat) t v, Try.f7.params[j]? = some t → args[j]? = some v → Value.okWide Try.prog W .any base t v)
    (hW : DataW.Whole enc Try.prog Try.f7.params.toList Rows.subsumeChainsSpec.vars false W args.toList ds gs before) (hk : Rows.uptoSmall H (ds ++ gs) = true) :
    Calls Try.prog 7 args W fun e W' => ∃ v, e = .returned v ∧ Rows.subsumeChainsSpec.post enc Try.prog Try.f7 false true false false W args v W' := by
  have hW' := hW
  obtain ⟨p, q, hA0, hV, rfl, hfz, hnd⟩ := hW
  have hA : DataW.TrodAll enc Try.prog W 0 (fun _ => true) true Try.f7.params.toList args.toList ds p := hA0
  rw [Try.params7] at hA hval
  obtain ⟨v0, vs0, d0, ds0, p0, q0, hargs, rfl, rfl, h0, r0⟩ := trodAll_cons hA
  obtain ⟨v1, vs1, d1, ds1, p1, q1, rfl, rfl, rfl, h1, r1⟩ := trodAll_cons r0
  obtain ⟨rfl, rfl, rfl⟩ := trodAll_nil r1
  obtain rfl : args = #[v0, v1] := by cases args; simp_all
  obtain ⟨rfl, rfl⟩ := trodVars_none hV
  obtain ⟨a0, len0, cap0, e0⟩ := okWide_slice Try.underlying22 (hval 0 22 v0 (by simp) (by simp))
  have lt0 : ∀ x ∈ p0, x.block < W.heap.size := by obtain ⟨m, hm⟩ := h0; exact DataW.trod_lt m _ _ _ hm
  have lt1 : ∀ x ∈ p1, x.block < W.heap.size := by obtain ⟨m, hm⟩ := h1; exact DataW.trod_lt m _ _ _ hm
  have hb : Rows.uptoBulk d0 ≤ 1048576 := by
    have : Rows.uptoBulkAll ([d0, d1] ++ []) ≤ 1048576 := of_decide_eq_true hk
    simp only [List.cons_append, List.nil_append, Rows.uptoBulkAll] at this
    omega
  obtain ⟨x0, l0, i0, k0, t0⟩ := read_decls h0 e0 hb
  obtain ⟨x1, y1, z1, l1, m1, n1, i1, j1, k1, t1⟩ := read_fs3 h1
  clear hA0
  refine ((chains_law i0 k0 i1 j1 k1).true (fun g cs hg => by cases hg) (us := #[v0, v1]) (by simp only [RepL]; exact ⟨_, _, rfl, t0, _, _, rfl, t1, rfl⟩)).mono fun e W' ⟨he, bel⟩ => ?_
  subst he
  exact ⟨_, rfl, _, _, _, [], _, [], hW', trodAll_mk1 (shut_bool Try.underlying4 _), (trodAll_cons_mk (Below.trod laidOut (by kernel_rfl) (of_decide_eq_true (by kernel_rfl)) h0 bel lt0) (trodAll_cons_mk (Below.trod laidOut (by kernel_rfl) (of_decide_eq_true (by kernel_rfl)) h1 bel lt1) trodAll_mk0)), rfl, bel.frame _, fun h => by cases h⟩

set_option maxRecDepth 100000 in
theorem lifted (os : Os) (started : os.Started) (H : Type) (enc : TypeId × Value → H) (F : Stop.Interp) :
    ReturnsInHanded {} Try.checked os 7 .any ((Rows.OpenSpec.upto Rows.subsumeChainsSpec).pre6 enc Try.prog Try.f7 Rows.subsumeChainsUptoRow.domain false) (((Rows.OpenSpec.upto Rows.subsumeChainsSpec).at F).post enc Try.prog Try.f7 false true false false) := by
  refine returnsInHanded_of_cond (C := Try.checked) (s := Rows.OpenSpec.upto Rows.subsumeChainsSpec) (k := Rows.uptoSmall) rfl own started (by kernel_rfl) Try.func7
    (OpenSpec.witness (enc := enc) (C := Try.checked) (s := Rows.OpenSpec.upto Rows.subsumeChainsSpec) (k := Rows.uptoSmall) rfl false ⟨#[], #[.slice none 0 0, .agg #[.slice none 0 0, .slice none 0 0, .slice none 0 0]], []⟩ 8 (by kernel_rfl) (by kernel_rfl) (by kernel_rfl)
      (x := ([.nil, .agg [.agg [.nil], .agg [.nil], .agg [.nil]]], [], [])) (by kernel_rfl) rfl (by kernel_rfl)) ?_
  intro W base args ds gs before hval hW _ hk _
  exact contract H enc W base args ds gs before hval hW hk

theorem over : Rows.subsumeChainsUptoRow.holds Try.pinned (Rows.OpenSpec.upto Rows.subsumeChainsSpec) :=
  OpenClaim.holds_of_cond 7 Try.f7 rfl rfl rfl rfl rfl rfl rfl ⟨rfl, rfl, rfl, rfl, rfl⟩ rfl rfl rfl rfl rfl (by kernel_rfl) Try.func7 (by kernel_rfl)
    (of_decide_eq_true (by kernel_rfl)) (by unfold Func.isWrapper; first | (rw [if_pos (by decide +kernel)]; kernel_rfl) | (rw [if_neg (by decide +kernel)]; exact ⟨rfl, rfl⟩))
    (fun os started H enc _ F => lifted os started H enc F)

theorem proved : Rows.SubsumeChainsUptoSaid :=
  over
end Go.Proofs.Ytbiadmfmjnoecaa.subsumeChains
