/-
  The document's functions of sets: what they return (after the texts of chapter 02).
-/
import Derived.Test.YtbiadmfmjnoecaaU1
namespace Go.Proofs.Ytbiadmfmjnoecaa
set_option linter.unusedSimpArgs false
set_option linter.unusedVariables false
open Go Go.Abs


theorem rword_any {b : T} {l : List W} (hb : decB b = some l) (i : Nat) : CallT Try.prog G 116 [b, .v (.int .i64 (i : Int))] (· = uv (wd l i)) := by
  by_cases hi : i < l.length
  · have hx : l[i]? = some (wd l i) := by simp [wd, hi]
    refine k_r02_word.runs ctx0 rfl ?_
    simp -implicitDefEqProofs [M_r02_word, len_dec hb, iaddr_dec hb, load_drop _ hx, hi]
  · refine k_r02_word.runs ctx0 rfl ?_
    have hw : wd l i = 0 := by simp [wd, hi]
    simp -implicitDefEqProofs [M_r02_word, len_dec hb, hi, hw, uv]

theorem rword_ok : GOK Try.prog G 116 gWord := by
  intro args r h
  unfold gWord at h
  split at h
  · split at h
    · rename_i i l hl
      split at h
      · rename_i h0
        injection h with h; subst h
        obtain ⟨n, rfl⟩ := Int.eq_ofNat_of_zero_le h0
        exact rword_any hl n
      · cases h
    · cases h
  · cases h

theorem rnormal_call {t : T} {l : List W} (hb : decB t = some l) (hl : l.length ≤ 1000) : CallT Try.prog G 117 [t] (· = encB (normL l)) := by
  refine k_r02_Normal.call rfl ?_
  unfold M_r02_Normal
  refine mc_seq_runs ctx0 ?_
  simp -implicitDefEqProofs
  refine mc_seq_runs ctx0 ?_
  simp -implicitDefEqProofs [len_dec hb]
  refine mc_cut (Sn 23 t) (fun a => a ≤ l.length ∧ normL l = l.take a) (fun _ => rfl) ?_ ?_
  · refine mc_block ?_
    refine mc_while (Sn 23 t) id (fun a => a ≤ l.length ∧ normL (l.take a) = normL l) l.length (fun _ => rfl) ⟨Nat.le_refl _, by simp⟩ ?_ rfl ?_
    · refine sub_forget rfl rfl ?_ ?_ <;> simp -implicitDefEqProofs [Sn]
    · rintro a ⟨ha, hn⟩
      refine mc_runs ctx0 ?_
      cases a with
      | zero =>
        simp -implicitDefEqProofs [Sn]
        refine Next.mk 0 ?_ (sub_forget rfl rfl ?_ ?_)
        · exact ⟨by omega, by rw [← hn]; simp [normL]⟩
        all_goals simp -implicitDefEqProofs [Sn]
      | succ a =>
        have e1 : IntKind.i64.wrap (a : Int) = (a : Int) := wrap_i64 (by omega) (by omega)
        obtain ⟨x, hx⟩ : ∃ x, l[a]? = some x := ⟨_, List.getElem?_eq_getElem (by omega)⟩
        have ha' : a < l.length := by omega
        by_cases h0 : x = 0
        · subst h0
          simp -implicitDefEqProofs [Sn, e1, iaddr_dec hb, load_drop _ hx, ha', uv]
          refine Next.mk a ?_ (sub_forget rfl rfl ?_ ?_)
          · exact ⟨⟨by omega, by rw [← hn, normL_zero ha' hx]⟩, by simp⟩
          all_goals simp -implicitDefEqProofs [Sn]
        · have h0' : ((x.toNat : Int) == 0) = false := by
            rw [beq_eq_false_iff_ne]
            exact fun h => h0 (BitVec.eq_of_toNat_eq (by simpa using h))
          simp -implicitDefEqProofs [Sn, e1, iaddr_dec hb, load_drop _ hx, ha', uv, h0']
          refine Next.mk (a + 1) ?_ (sub_forget rfl rfl ?_ ?_)
          · exact ⟨by omega, by rw [← hn, normL_stop hx h0]⟩
          all_goals simp -implicitDefEqProofs [Sn]
  · rintro a ⟨ha, hn⟩
    refine mc_runs ctx0 ?_
    have b1 : a * 8 ≤ 140737488355328 := by omega
    have b2 : a ≤ 9223372036854775807 := by omega
    rcases decB_cases hb with ⟨rfl, rfl⟩ | rfl
    · have : a = 0 := by simpa using ha
      subst this
      simp -implicitDefEqProofs [Sn, nilT, bsliceM, fillP, zeros, sliceM, srcP, appM, encB, hn]
    · have tk : allT (List.take a (l.map (PV.t ∘ uv))) = some (List.take a (l.map uv)) := by rw [← allT_map_t, List.map_take, List.map_map]
      simp -implicitDefEqProofs [Sn, bsliceM, fillP, zeros, sliceM, srcP, appM, encB, hn, ha, b1, b2, List.take_take, tk]
def gRN : List T → Option T
  | [t] => match decB t with
    | some l => if l.length ≤ 1000 then some (encB (normL l)) else none
    | none => none
  | _ => none
theorem rnormal_ok : GOK Try.prog G 117 gRN := by
  intro args r h
  unfold gRN at h
  split at h
  · split at h
    · rename_i l hl
      split at h
      · rename_i hlt
        injection h with h; subst h
        exact rnormal_call hl hlt
      · cases h
    · cases h
  · cases h
theorem gRN_nil : gRN [.v (.slice none 0 0)] = some (encB []) := rfl
theorem gRN_sl (l : List W) (n : Nat) (hn : n = l.length) (h : l.length ≤ 1000) : gRN [.sl n (l.map uv)] = some (encB (normL l)) := by
  subst hn
  have := decB_encB l
  unfold encB at this
  simp [gRN, this, h]

def tb2 : Tbl := [(117, gRN), (116, gWord)]
theorem ctx2 : Ctx Try.prog G (orc tb2) := (TblOK.cons rnormal_ok (TblOK.cons rword_ok TblOK.nil)).ctx mixed

def upTo (f : Nat → W) (n : Nat) : List W := (List.range n).map f
theorem upTo_succ (f : Nat → W) (n : Nat) : upTo f (n + 1) = upTo f n ++ [f n] := by simp [upTo, List.range_succ]
theorem length_upTo (f : Nat → W) (n : Nat) : (upTo f n).length = n := by simp [upTo]

def rowAt : Nat → PV
  | 0 => .t (.v (.slice none 0 0))
  | k + 1 => .row (2 * k + 1) 0 (k + 1) 1
def heapAt (f : Nat → W) : Nat → Heap
  | 0 => []
  | k + 1 => [(2 * k + 1, .cells 142 ((upTo f (k + 1)).map tw))]
def treeAt (f : Nat → W) : Nat → T
  | 0 => .v (.slice none 0 0)
  | k + 1 => .sl (k + 1) ((upTo f (k + 1)).map uv)
def lentAt : Nat → List Nat
  | 0 => []
  | k + 1 => [2 * k + 1]

theorem app_at (f : Nat → W) (j : Nat) (hj : j ≤ 1000) : appM 142 1 8 ((2 * j, .cells 142 [.t (uv (f j))]) :: heapAt f j) (2 * j + 1) (rowAt j) (.row (2 * j) 0 1 1) = some (rowAt (j + 1), heapAt f (j + 1) ++ [(2 * j, .cells 142 [.t (uv (f j))])], 2 * (j + 1)) := by
  cases j with
  | zero => simp [appM, srcP, heapAt, rowAt, upTo, tw]
  | succ k =>
    have b1 : (k + 1 + 1) * 8 ≤ 140737488355328 := by omega
    have b2 : k + 1 + 1 ≤ 9223372036854775807 := by omega
    have e : 2 * (k + 1) = 2 * k + 2 := by omega
    simp [appM, srcP, heapAt, rowAt, length_upTo, b1, b2, e, upTo_succ, tw]
    omega

theorem toT_at (f : Nat → W) (n : Nat) : toT (heapAt f n) (rowAt n) = some (treeAt f n, lentAt n) := by
  cases n with
  | zero => rfl
  | succ k =>
    have tk : List.take (k + 1) ((upTo f (k + 1)).map tw) = (upTo f (k + 1)).map tw := List.take_of_length_le (by simp [length_upTo])
    simp [heapAt, rowAt, treeAt, lentAt, length_upTo, tk, allT_tw]

theorem gRN_at (f : Nat → W) (n : Nat) (h : n ≤ 1000) : gRN [treeAt f n] = some (encB (normL (upTo f n))) := by
  cases n with
  | zero => rfl
  | succ k => exact gRN_sl _ _ (length_upTo f _).symm (by rw [length_upTo]; exact h)

def SR (N : Nat) (a b : T) (f : Nat → W) (j : Nat) : AState := ⟨[(6, .t (.v (.int .i64 (j : Int)))), (5, rowAt j), (1, .t b), (0, .t a)], heapAt f j, 2 * j, N⟩

theorem ror_call {a b : T} {l m : List W} (ha : decB a = some l) (hb : decB b = some m) (hl : l.length ≤ 1000) (hm : m.length ≤ 1000) : CallT Try.prog G 88 [a, b] (· = encB (normL (upTo (fun i => wd l i ||| wd m i) (max l.length m.length)))) := by
  refine k_r02_Or.call rfl ?_
  unfold M_r02_Or
  refine mc_seq_runs ctx2 ?_
  simp -implicitDefEqProofs
  refine mc_seq_runs ctx2 ?_
  simp -implicitDefEqProofs
  obtain ⟨n, hn⟩ : ∃ n, n = max l.length m.length := ⟨_, rfl⟩
  rw [← hn]
  have hmin : (if l.length < m.length then (m.length : Int) else (l.length : Int)) = (n : Int) := by split <;> omega
  refine mc_cut (fun _ : Unit => SR 28 a b (fun i => wd l i ||| wd m i) n) (fun _ => True) (fun _ => rfl) ?_ ?_
  · refine mc_seq_runs ctx2 ?_
    simp -implicitDefEqProofs
    refine mc_block ?_
    refine mc_for (SR 28 a b (fun i => wd l i ||| wd m i)) n (fun _ => rfl) ?_ rfl ?_ ?_
    · refine sub_forget rfl rfl ?_ ?_ <;> simp -implicitDefEqProofs [SR, rowAt, heapAt]
    · intro j hj
      refine mc_runs ctx2 ?_
      have w1 := gWord_eq ha j
      have w2 := gWord_eq hb j
      have e1 : IntKind.i64.wrap ((j : Int) + 1) = ((j + 1 : Nat) : Int) := wrap_nat (by omega) (by omega)
      have fj : ∀ x : W, fillP (fun i => some (i, 1)) [.t (.v (.int .u64 0))] [(0, .t (uv x))] = some [.t (uv x)] := fun x => rfl
      have ap := app_at (fun i => wd l i ||| wd m i) j (by omega)
      simp -implicitDefEqProofs [SR, hj, w1, w2, tb2, bsliceM, zeros, fj, ap, len_dec ha, len_dec hb, hmin, e1]
      refine sub_forget rfl rfl ?_ ?_ <;> simp -implicitDefEqProofs [heapAt]
    · refine mc_runs ctx2 ?_
      simp -implicitDefEqProofs [SR, len_dec ha, len_dec hb, hmin]
      exact Next.mk () trivial (sub_forget rfl rfl (by simp -implicitDefEqProofs) (by cases n <;> simp -implicitDefEqProofs [heapAt]))
  · rintro _ -
    refine mc_runs ctx2 ?_
    have tt := toT_at (fun i => wd l i ||| wd m i) n
    have gn := gRN_at (fun i => wd l i ||| wd m i) n (by omega)
    simp -implicitDefEqProofs [SR, tt, gn, tb2]



def S11 (a b : T) (j : Nat) : AState := ⟨[(5, .t (.v (.int .i64 (j : Int)))), (1, .t b), (0, .t a)], [], 0, 26⟩

theorem uv_ne {x y : W} (h : x ≠ y) : ((x.toNat : Int) != (y.toNat : Int)) = true := by
  rw [bne_iff_ne]
  exact fun e => h (BitVec.eq_of_toNat_eq (by omega))

/-- Lists of words: equal, or of one length with a first place where they differ. -/
theorem first_diff : ∀ (l m : List W), l.length = m.length → l ≠ m → ∃ k, k < l.length ∧ (∀ i, i < k → wd l i = wd m i) ∧ wd l k ≠ wd m k
  | [], [], _, h => absurd rfl h
  | x :: l, y :: m, hl, h => by
    by_cases hxy : x = y
    · subst hxy
      obtain ⟨k, h1, h2, h3⟩ := first_diff l m (by simpa using hl) (fun e => h (by rw [e]))
      refine ⟨k + 1, by simpa using h1, fun i hi => ?_, h3⟩
      cases i with
      | zero => rfl
      | succ i => exact h2 i (by omega)
    · exact ⟨0, by simp, fun i hi => by omega, hxy⟩

theorem same_call {a b : T} {l m : List W} (ha : decB a = some l) (hb : decB b = some m) (hl : l.length ≤ 1000) (hm : m.length ≤ 1000) : CallT Try.prog G 118 [a, b] (· = .v (.bool (l == m))) := by
  refine k_r02_Same.call rfl ?_
  unfold M_r02_Same
  refine mc_seq_runs ctx0 ?_
  simp -implicitDefEqProofs
  by_cases hlen : l.length = m.length
  · have hne : ((l.length : Int) != (m.length : Int)) = false := by simp [hlen]
    refine mc_seq_runs ctx0 ?_
    simp -implicitDefEqProofs [len_dec ha, len_dec hb, hlen]
    have step : ∀ (j : Nat), j < l.length → wd l j = wd m j → ∀ (Q : Exit → AState → Prop), True := fun _ _ _ _ => trivial
    by_cases he : l = m
    · subst he
      refine mc_cut (fun _ : Unit => S11 a b l.length) (fun _ => True) (fun _ => rfl) ?_ ?_
      · refine mc_seq_runs ctx0 ?_
        simp -implicitDefEqProofs
        refine mc_block ?_
        refine mc_for (S11 a b) l.length (fun _ => rfl) ?_ rfl ?_ ?_
        · refine sub_forget rfl rfl ?_ ?_ <;> simp -implicitDefEqProofs [S11]
        · intro j hj
          refine mc_runs ctx0 ?_
          have x1 : l[j]? = some (wd l j) := by simp [wd, hj]
          have e1 : IntKind.i64.wrap ((j : Int) + 1) = ((j + 1 : Nat) : Int) := wrap_nat (by omega) (by omega)
          simp -implicitDefEqProofs [S11, hj, len_dec ha, iaddr_dec ha, iaddr_dec hb, load_drop _ x1, uv, e1]
          refine sub_forget rfl rfl ?_ ?_ <;> simp -implicitDefEqProofs
        · refine mc_runs ctx0 ?_
          simp -implicitDefEqProofs [S11, len_dec ha]
          exact Next.mk () trivial (sub_forget rfl rfl (by simp -implicitDefEqProofs) (by simp -implicitDefEqProofs))
      · rintro _ -
        refine mc_runs ctx0 ?_
        simp -implicitDefEqProofs [S11]
    · obtain ⟨k, hk, hsame, hdiff⟩ := first_diff l m hlen he
      have hf : (l == m) = false := by simpa using he
      rw [hf]
      refine mc_cut (fun _ : Unit => S11 a b l.length) (fun _ => False) (fun _ => rfl) ?_ ?_
      · refine mc_seq_runs ctx0 ?_
        simp -implicitDefEqProofs
        refine mc_block ?_
        refine mc_for (S11 a b) k (fun _ => rfl) ?_ rfl ?_ ?_
        · refine sub_forget rfl rfl ?_ ?_ <;> simp -implicitDefEqProofs [S11]
        · intro j hj
          refine mc_runs ctx0 ?_
          have hjl : j < l.length := by omega
          have hjm : j < m.length := by omega
          have x1 : l[j]? = some (wd l j) := by simp [wd, hjl]
          have x2 : m[j]? = some (wd l j) := by rw [hsame j hj]; simp [wd, hjm]
          have e1 : IntKind.i64.wrap ((j : Int) + 1) = ((j + 1 : Nat) : Int) := wrap_nat (by omega) (by omega)
          simp -implicitDefEqProofs [S11, hjl, hjm, len_dec ha, iaddr_dec ha, iaddr_dec hb, load_drop _ x1, load_drop _ x2, uv, e1]
          refine sub_forget rfl rfl ?_ ?_ <;> simp -implicitDefEqProofs
        · refine mc_runs ctx0 ?_
          have hkm : k < m.length := by omega
          have x1 : l[k]? = some (wd l k) := by simp [wd, hk]
          have x2 : m[k]? = some (wd m k) := by simp [wd, hkm]
          simp -implicitDefEqProofs [S11, hk, hkm, len_dec ha, iaddr_dec ha, iaddr_dec hb, load_drop _ x1, load_drop _ x2, uv, uv_ne hdiff]
      · rintro _ h
        exact h.elim
  · have hne : ((l.length : Int) != (m.length : Int)) = true := by simp; omega
    have hf : (l == m) = false := by
      rw [beq_eq_false_iff_ne]
      exact fun e => hlen (by rw [e])
    rw [hf]
    refine mc_runs ctx0 ?_
    simp -implicitDefEqProofs [len_dec ha, len_dec hb, hne]




def eU : Enc W := ⟨1, fun x => [uv x], fun _ => rfl, by omega, fun a b h => by
  injection h with h
  have := decU_uv a
  rw [h, decU_uv] at this
  injection this with this
  exact this.symm⟩

def SU (N : Nat) (a b : T) (f : Nat → W) (j : Nat) : AState := ⟨[(6, .t (iv (j : Int))), (5, rowP eU 0 (upTo f j)), (1, .t b), (0, .t a)], rowH eU 142 0 (upTo f j), 1, N⟩

theorem gRN_tree (l : List W) (h : l.length ≤ 1000) : gRN [treeS eU l] = some (encB (normL l)) := by
  cases l with
  | nil => rfl
  | cons x r =>
    have : treeS eU (x :: r) = .sl (x :: r).length ((x :: r).map uv) := by
      simp only [treeS, slT, eU]
      congr 1
      induction (x :: r) with
      | nil => rfl
      | cons y s ih => simp only [List.flatMap_cons, List.map_cons, List.cons_append, List.nil_append, ih]
    rw [this]
    exact gRN_sl _ _ rfl h

theorem app_U (f : Nat → W) (j : Nat) (hj : j ≤ 1000) : appM 142 1 8 (rowH eU 142 0 (upTo f j)) 1 (rowP eU 0 (upTo f j)) (.t (.sl 1 [uv (f j)])) = some (rowP eU 1 (upTo f j ++ [f j]), appH eU 142 (rowH eU 142 0 (upTo f j)) 1 0 (upTo f j) [f j], appN 1 (upTo f j) [f j]) := by
  have h := RowAt.head eU 142 [] 0 (upTo f j)
  rw [List.append_nil] at h
  exact app_row h (src_tree (IsS.mk [f j])) (by rw [length_upTo]; simp; omega) (by rw [length_upTo]; simp; omega)

theorem rand_call {a b : T} {l m : List W} (ha : decB a = some l) (hb : decB b = some m) (hl : l.length ≤ 1000) (hm : m.length ≤ 1000) : CallT Try.prog G 89 [a, b] (· = encB (normL (upTo (fun i => wd l i &&& wd m i) (l.length)))) := by
  refine k_r02_And.call rfl ?_
  unfold M_r02_And
  refine mc_seq_runs ctx2 ?_
  simp -implicitDefEqProofs
  refine mc_seq_runs ctx2 ?_
  simp -implicitDefEqProofs
  obtain ⟨f, hf⟩ : ∃ f : Nat → W, f = fun i => wd l i &&& wd m i := ⟨_, rfl⟩
  rw [← hf]
  refine mc_cut (fun _ : Unit => SU 26 a b f l.length) (fun _ => True) (fun _ => rfl) ?_ ?_
  · refine mc_seq_runs ctx2 ?_
    simp -implicitDefEqProofs
    refine mc_block ?_
    refine mc_for (SU 26 a b f) l.length (fun _ => rfl) ?_ rfl ?_ ?_
    · exact sub_row1 (k := 0) (RowAt.nil _ _ _ _) (by omega) (by omega) (by simp -implicitDefEqProofs [upTo, rowP, ren, under])
    · intro j hj
      refine mc_runs ctx2 ?_
      have x1 : l[j]? = some (wd l j) := by simp [wd, hj]
      have w2 := gWord_eq hb j
      have i1 := iaddr_dec ha .i64 j (by omega) (by omega)
      simp only [Int.toNat_natCast] at i1
      have e1 : IntKind.i64.wrap ((j : Int) + 1) = ((j + 1 : Nat) : Int) := wrap_nat (by omega) (by omega)
      have ap := app_U f j (by omega)
      have fj : f j = (let i := j; wd l i &&& wd m i) := by rw [hf]
      simp only at fj
      have ts : ∀ x : W, tsliceM 142 1 [.int .u64 0] 1 [(0, .t (uv x))] = some (.t (.sl 1 [uv x])) := fun x => rfl
      simp -implicitDefEqProofs [SU, hj, i1, load_drop _ x1, w2, tb2, len_dec ha, ts, ← fj, ap, e1]
      rw [upTo_succ]
      exact sub_row1 RowAt.app (by omega) (by omega) (by simp -implicitDefEqProofs [ren_rowP, under_rowP, ren, under])
    · refine mc_runs ctx2 ?_
      simp -implicitDefEqProofs [SU, len_dec ha]
      exact Next.mk () trivial (Sub.trans (Sub.refl _) (sub_row1 (k := 0) (RowAt.head' _ _ _ _) (by omega) (by omega) (by simp -implicitDefEqProofs [ren_rowP, under_rowP, ren, under])))
  · rintro _ -
    refine mc_runs ctx2 ?_
    have tt := (RowAt.head' eU 142 0 (upTo f l.length)).toT
    have gn := gRN_tree (upTo f l.length) (by rw [length_upTo]; exact hl)
    simp -implicitDefEqProofs [SU, tt, gn, tb2]

theorem rminus_call {a b : T} {l m : List W} (ha : decB a = some l) (hb : decB b = some m) (hl : l.length ≤ 1000) (hm : m.length ≤ 1000) : CallT Try.prog G 111 [a, b] (· = encB (normL (upTo (fun i => wd l i &&& ~~~ wd m i) (l.length)))) := by
  refine k_r02_Minus.call rfl ?_
  unfold M_r02_Minus
  refine mc_seq_runs ctx2 ?_
  simp -implicitDefEqProofs
  refine mc_seq_runs ctx2 ?_
  simp -implicitDefEqProofs
  obtain ⟨f, hf⟩ : ∃ f : Nat → W, f = fun i => wd l i &&& ~~~ wd m i := ⟨_, rfl⟩
  rw [← hf]
  refine mc_cut (fun _ : Unit => SU 26 a b f l.length) (fun _ => True) (fun _ => rfl) ?_ ?_
  · refine mc_seq_runs ctx2 ?_
    simp -implicitDefEqProofs
    refine mc_block ?_
    refine mc_for (SU 26 a b f) l.length (fun _ => rfl) ?_ rfl ?_ ?_
    · exact sub_row1 (k := 0) (RowAt.nil _ _ _ _) (by omega) (by omega) (by simp -implicitDefEqProofs [upTo, rowP, ren, under])
    · intro j hj
      refine mc_runs ctx2 ?_
      have x1 : l[j]? = some (wd l j) := by simp [wd, hj]
      have w2 := gWord_eq hb j
      have i1 := iaddr_dec ha .i64 j (by omega) (by omega)
      simp only [Int.toNat_natCast] at i1
      have e1 : IntKind.i64.wrap ((j : Int) + 1) = ((j + 1 : Nat) : Int) := wrap_nat (by omega) (by omega)
      have ap := app_U f j (by omega)
      have fj : f j = (let i := j; wd l i &&& ~~~ wd m i) := by rw [hf]
      simp only at fj
      have ts : ∀ x : W, tsliceM 142 1 [.int .u64 0] 1 [(0, .t (uv x))] = some (.t (.sl 1 [uv x])) := fun x => rfl
      simp -implicitDefEqProofs [SU, hj, i1, load_drop _ x1, w2, tb2, len_dec ha, ts, ← fj, ap, e1]
      rw [upTo_succ]
      exact sub_row1 RowAt.app (by omega) (by omega) (by simp -implicitDefEqProofs [ren_rowP, under_rowP, ren, under])
    · refine mc_runs ctx2 ?_
      simp -implicitDefEqProofs [SU, len_dec ha]
      exact Next.mk () trivial (Sub.trans (Sub.refl _) (sub_row1 (k := 0) (RowAt.head' _ _ _ _) (by omega) (by omega) (by simp -implicitDefEqProofs [ren_rowP, under_rowP, ren, under])))
  · rintro _ -
    refine mc_runs ctx2 ?_
    have tt := (RowAt.head' eU 142 0 (upTo f l.length)).toT
    have gn := gRN_tree (upTo f l.length) (by rw [length_upTo]; exact hl)
    simp -implicitDefEqProofs [SU, tt, gn, tb2]

theorem normL_append_zero (l : List W) : normL (l ++ [0]) = normL l := by simp [normL]
theorem normL_append_pos (l : List W) {x : W} (h : x ≠ 0) : normL (l ++ [x]) = l ++ [x] := by
  have h' : (x == 0) = false := by simpa using h
  simp only [normL, List.reverse_append, List.reverse_cons, List.reverse_nil, List.nil_append, List.cons_append, List.dropWhile_cons, h', Bool.false_eq_true, if_false, List.reverse_reverse]

theorem rev_rec {p : List W → Prop} (h0 : p []) (h1 : ∀ l x, p l → p (l ++ [x])) (l : List W) : p l := by
  have : ∀ r : List W, p r.reverse := by
    intro r
    induction r with
    | nil => exact h0
    | cons x r ih => rw [List.reverse_cons]; exact h1 _ _ ih
  simpa using this l.reverse

theorem length_normL (l : List W) : (normL l).length ≤ l.length := by
  induction l using rev_rec with
  | h0 => simp [normL]
  | h1 l x ih =>
    by_cases h : x = 0
    · subst h; rw [normL_append_zero]; simp; omega
    · rw [normL_append_pos l h]; exact Nat.le_refl _

theorem wd_append (l m : List W) (i : Nat) : wd (l ++ m) i = if i < l.length then wd l i else wd m (i - l.length) := by
  simp only [wd, List.getD_eq_getElem?_getD, List.getElem?_append]
  split <;> rfl

theorem wd_ge {l : List W} {i : Nat} (h : l.length ≤ i) : wd l i = 0 := by simp [wd, h]

theorem wd_normL (l : List W) (i : Nat) : wd (normL l) i = wd l i := by
  induction l using rev_rec with
  | h0 => simp [normL]
  | h1 l x ih =>
    by_cases h : x = 0
    · subst h
      rw [normL_append_zero, ih, wd_append]
      split
      · rfl
      · rename_i hi
        rw [wd_ge (by omega)]
        cases i - l.length with
        | zero => rfl
        | succ k => rfl
    · rw [normL_append_pos l h]

/-- No zero at the end. -/
def Norm (l : List W) : Prop := l = [] ∨ wd l (l.length - 1) ≠ 0

theorem norm_normL (l : List W) : Norm (normL l) := by
  induction l using rev_rec with
  | h0 => exact .inl rfl
  | h1 l x ih =>
    by_cases h : x = 0
    · subst h; rw [normL_append_zero]; exact ih
    · rw [normL_append_pos l h]
      right
      simpa [wd] using h

theorem Norm.len_le {l m : List W} (hl : Norm l) (h : ∀ i, wd l i = wd m i) : l.length ≤ m.length := by
  rcases hl with rfl | hl
  · simp
  · by_cases hlt : m.length < l.length
    · exact absurd ((h _).trans (wd_ge (by omega))) hl
    · omega

theorem Norm.ext {l m : List W} (hl : Norm l) (hm : Norm m) (h : ∀ i, wd l i = wd m i) : l = m := by
  have e : l.length = m.length := Nat.le_antisymm (hl.len_le h) (hm.len_le fun i => (h i).symm)
  apply List.ext_getElem e
  intro i h1 h2
  have := h i
  simp only [wd, List.getD_eq_getElem?_getD, List.getElem?_eq_getElem h1, List.getElem?_eq_getElem h2, Option.getD_some] at this
  exact this

theorem normL_ext {l m : List W} (h : ∀ i, wd l i = wd m i) : normL l = normL m :=
  (norm_normL l).ext (norm_normL m) fun i => by rw [wd_normL, wd_normL, h]

theorem wd_upTo (f : Nat → W) (n i : Nat) : wd (upTo f n) i = if i < n then f i else 0 := by
  unfold wd upTo
  split
  · rename_i h; simp [h]
  · rename_i h; simp [h]

theorem wd_andL (l m : List W) (i : Nat) : wd (andL l m) i = wd l i &&& wd m i := by
  show wd (upTo _ _) i = _
  rw [wd_upTo]
  split
  · rfl
  · rename_i h
    by_cases h1 : l.length ≤ i
    · rw [wd_ge h1]; simp
    · rw [wd_ge (l := m) (by omega)]; simp

theorem wd_orL (l m : List W) (i : Nat) : wd (orL l m) i = wd l i ||| wd m i := by
  show wd (upTo _ _) i = _
  rw [wd_upTo]
  split
  · rfl
  · rename_i h
    rw [wd_ge (l := l) (by omega), wd_ge (l := m) (by omega)]; simp

theorem wd_minusL (l m : List W) (i : Nat) : wd (minusL l m) i = wd l i &&& ~~~ wd m i := by
  show wd (upTo _ _) i = _
  rw [wd_upTo]
  split
  · rfl
  · rename_i h
    rw [wd_ge (l := l) (by omega)]; simp

theorem rand_eq (l m : List W) : normL (upTo (fun i => wd l i &&& wd m i) l.length) = normL (andL l m) := normL_ext fun i => by
  rw [wd_andL, wd_upTo]
  split
  · rfl
  · rename_i h
    rw [wd_ge (l := l) (by omega)]; simp

theorem ror_eq (l m : List W) : normL (upTo (fun i => wd l i ||| wd m i) (max l.length m.length)) = normL (orL l m) := rfl
theorem rminus_eq (l m : List W) : normL (upTo (fun i => wd l i &&& ~~~ wd m i) l.length) = normL (minusL l m) := rfl

/-- A contract of a function of two sets. -/
def gB2 (f : List W → List W → T) : List T → Option T
  | [a, b] => match decB a, decB b with
    | some l, some m => if l.length ≤ 1000 ∧ m.length ≤ 1000 then some (f l m) else none
    | _, _ => none
  | _ => none
theorem gB2_ok {F : Nat} {f : List W → List W → T} (h : ∀ {a b : T} {l m : List W}, decB a = some l → decB b = some m → l.length ≤ 1000 → m.length ≤ 1000 → CallT Try.prog G F [a, b] (· = f l m)) : GOK Try.prog G F (gB2 f) := by
  intro args r e
  unfold gB2 at e
  split at e
  · split at e
    · rename_i l m ha hb
      split at e
      · rename_i hlm
        injection e with e; subst e
        exact h ha hb hlm.1 hlm.2
      · cases e
    · cases e
  · cases e
theorem gB2_eq {f : List W → List W → T} {a b : T} {l m : List W} (ha : decB a = some l) (hb : decB b = some m) (hl : l.length ≤ 1000) (hm : m.length ≤ 1000) : gB2 f [a, b] = some (f l m) := by
  simp [gB2, ha, hb, hl, hm]

def fAnd (l m : List W) : T := encB (normL (andL l m))
def fOr (l m : List W) : T := encB (normL (orL l m))
def fMinus (l m : List W) : T := encB (normL (minusL l m))
def fSame (l m : List W) : T := .v (.bool (l == m))
theorem len_and (l m : List W) (h : l.length ≤ 1000) : (normL (andL l m)).length ≤ 1000 := Nat.le_trans (length_normL _) (by simp [andL]; omega)
theorem len_or (l m : List W) (h : l.length ≤ 1000) (h' : m.length ≤ 1000) : (normL (orL l m)).length ≤ 1000 := Nat.le_trans (length_normL _) (by simp [orL]; omega)
theorem len_minus (l m : List W) (h : l.length ≤ 1000) : (normL (minusL l m)).length ≤ 1000 := Nat.le_trans (length_normL _) (by simp [minusL]; omega)

end Go.Proofs.Ytbiadmfmjnoecaa
