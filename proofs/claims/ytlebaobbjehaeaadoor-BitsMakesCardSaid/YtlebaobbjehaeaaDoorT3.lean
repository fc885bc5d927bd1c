/-
  And, Or, Minus of the program: what they return.
-/
import Derived.Test.YtlebaobbjehaeaaDoorT1
namespace Go.Proofs.YtlebaobbjehaeaaDoor
set_option linter.unusedSimpArgs false
set_option linter.unusedVariables false
open Go Go.Abs

def tw (x : W) : PV := .t (uv x)
@[simp] theorem cellsP_uv (x : W) : cellsP (.t (uv x)) = some [.t (uv x)] := rfl

/-- The first j of n places filled by f. -/
def part (f : Nat → W) (n j : Nat) : List W := (List.range n).map fun i => if i < j then f i else 0
theorem length_part (f : Nat → W) (n j : Nat) : (part f n j).length = n := by simp [part]
theorem part_zero (f : Nat → W) (n : Nat) : part f n 0 = List.replicate n 0 := by
  apply List.ext_getElem <;> simp [part]
theorem part_set (f : Nat → W) (n j : Nat) : (part f n j).set j (f j) = part f n (j + 1) := by
  apply List.ext_getElem
  · simp [part]
  · intro i h1 h2
    simp only [part, List.getElem_set, List.getElem_map, List.getElem_range]
    by_cases h : j = i
    · subst h; simp
    · rw [if_neg h]
      congr 1
      apply propext
      omega
theorem part_all (f : Nat → W) (n : Nat) : part f n n = (List.range n).map f := by
  apply List.ext_getElem
  · simp [part]
  · intro i h1 h2
    simp only [part, List.length_map, List.length_range] at h1
    simp [part, h1]

theorem zeros_tw (n : Nat) : zeros [.int .u64 0] n = (List.replicate n (0 : W)).map tw := by
  simp [zeros, tw, uv]

theorem store_tw (l : List W) (i : Nat) (x : W) (h : i < l.length) (ty b : Nat) : storeM 1 [(b, .cells ty (l.map tw))] (.ptr b i) (.t (uv x)) = some [(b, .cells ty ((l.set i x).map tw))] := by
  have h' : i + 1 ≤ l.length := by omega
  simp -implicitDefEqProofs [storeM, splice, h', List.map_set, tw]

theorem allT_tw (l : List W) : allT (l.map tw) = some (l.map uv) := by
  have : l.map tw = (l.map uv).map PV.t := by simp [tw]
  rw [this, allT_map_t]

section
variable {Φ : Oracle} {H : Heap} {nx : Nat}
@[simp] theorem iaddr_row (b o n z' : Nat) (k : IntKind) (i : Int) (h0 : 0 ≤ i) (h1 : i < n) : iaddrM 1 (.row b o n z') (.t (.v (.int k i))) = some (.ptr b (o + i.toNat)) := by
  simp [iaddrM, h0, h1]
@[simp] theorem uv_and (isB : Bool) (nk : Option NK) (x y : W) : evalK Φ H nx (.bin isB .and nk) [.t (uv x), .t (uv y)] = some (.t (uv (x &&& y)), H, nx) := by
  simp only [uv, evalK_and, kbits_u64, ofInt_toNat, wrap_toNat]; rfl
@[simp] theorem uv_or (isB : Bool) (nk : Option NK) (x y : W) : evalK Φ H nx (.bin isB .or nk) [.t (uv x), .t (uv y)] = some (.t (uv (x ||| y)), H, nx) := by
  simp only [uv, evalK_or, kbits_u64, ofInt_toNat, wrap_toNat]; rfl
@[simp] theorem uv_xor (isB : Bool) (nk : Option NK) (x y : W) : evalK Φ H nx (.bin isB .xor nk) [.t (uv x), .t (uv y)] = some (.t (uv (x ^^^ y)), H, nx) := by
  simp only [uv, evalK_xor, kbits_u64, ofInt_toNat, wrap_toNat]; rfl
@[simp] theorem uv_andNot (isB : Bool) (nk : Option NK) (x y : W) : evalK Φ H nx (.bin isB .andNot nk) [.t (uv x), .t (uv y)] = some (.t (uv (x &&& ~~~ y)), H, nx) := by
  simp only [uv, evalK_andNot, kbits_u64, ofInt_toNat, wrap_toNat]; rfl
end

def gNormal : List T → Option T
  | [t] => match decB t with
    | some l => if l.length < 9223372036854775808 then (match t with | .sl _ _ => some (encB (normL l)) | _ => none) else none
    | none => none
  | _ => none

theorem normal_ok : GOK Tryd.prog G 29 gNormal := by
  intro args r h
  unfold gNormal at h
  split at h
  · rename_i t
    split at h
    · rename_i l hl
      split at h
      · rename_i hlt
        split at h
        · injection h with h; subst h
          rcases decB_cases hl with ⟨h1, _⟩ | h1
          · cases h1
          · rw [h1]; exact normal_enc l hlt
        · cases h
      · cases h
    · cases h
  · cases h

theorem gNormal_enc (l : List W) (h : l.length < 9223372036854775808) : gNormal [encB l] = some (encB (normL l)) := by
  have := decB_encB l
  unfold gNormal
  simp only [this, h, if_true]
  rfl
theorem gNormal_sl (l : List W) (n : Nat) (hn : n = l.length) (h : l.length < 9223372036854775808) : gNormal [.sl n (l.map uv)] = some (encB (normL l)) := by
  subst hn; exact gNormal_enc l h

def gWord : List T → Option T
  | [t, .v (.int .i64 i)] => match decB t with
    | some l => if 0 ≤ i then some (uv (wd l i.toNat)) else none
    | none => none
  | _ => none
theorem word_ok : GOK Tryd.prog G 33 gWord := by
  intro args r h
  unfold gWord at h
  split at h
  · split at h
    · rename_i i l hl
      split at h
      · rename_i h0
        injection h with h; subst h
        obtain ⟨n, rfl⟩ := Int.eq_ofNat_of_zero_le h0
        exact word_any hl n
      · cases h
    · cases h
  · cases h
theorem gWord_eq {t : T} {l : List W} (h : decB t = some l) (i : Nat) : gWord [t, .v (.int .i64 (i : Int))] = some (uv (wd l i)) := by
  simp [gWord, h]

def tb1 : Tbl := [(29, gNormal), (33, gWord)]
theorem ctx1 : Ctx Tryd.prog G (orc tb1) := (TblOK.cons normal_ok (TblOK.cons word_ok TblOK.nil)).ctx mixed

def S15 (a b : T) (n : Nat) (f : Nat → W) (j : Nat) : AState :=
  ⟨[(15, .t (.v (.int .i64 (j : Int)))), (14, .t (.v (.int .i64 (n : Int)))), (5, .row 0 0 n 1), (1, .t b), (0, .t a)], [(0, .cells 39 ((part f n j).map tw))], 1, 33⟩

def andL (l m : List W) : List W := (List.range (min l.length m.length)).map fun i => wd l i &&& wd m i

theorem and_call {a b : T} {l m : List W} (ha : decB a = some l) (hb : decB b = some m) (hl : l.length ≤ 1000) (hm : m.length ≤ 1000) : CallT Tryd.prog G 15 [a, b] (· = encB (normL (andL l m))) := by
  refine k15.call rfl ?_
  unfold M15
  refine mc_seq_runs ctx1 ?_
  simp -implicitDefEqProofs
  refine mc_seq_runs ctx1 ?_
  obtain ⟨n, hn⟩ : ∃ n, n = min l.length m.length := ⟨_, rfl⟩
  have hmin : (if m.length < l.length then (m.length : Int) else (l.length : Int)) = (n : Int) := by split <;> omega
  have hb1 : (8 : Int) * (n : Int) ≤ 281474976710656 := by omega
  have hb2 : (n : Int) ≤ 9223372036854775807 := by omega
  simp -implicitDefEqProofs [len_dec ha, len_dec hb, makeM, hmin, hb1, hb2, zeros_tw]
  refine mc_cut (fun _ : Unit => S15 a b n (fun i => wd l i &&& wd m i) n) (fun _ => True) (fun _ => rfl) ?_ ?_
  · refine mc_seq_runs ctx1 ?_
    simp -implicitDefEqProofs [lenslM]
    refine mc_block ?_
    refine mc_for (S15 a b n (fun i => wd l i &&& wd m i)) n (fun _ => rfl) ?_ rfl ?_ ?_
    · refine sub_forget rfl rfl ?_ ?_ <;> simp -implicitDefEqProofs [S15, part_zero]
    · intro j hj
      refine mc_runs ctx1 ?_
      have h1 : (j : Int) < (l.length : Int) := by omega
      have h2 : (j : Int) < (m.length : Int) := by omega
      have x1 : l[j]? = some (wd l j) := by simp [wd, show j < l.length by omega]
      have x2 : m[j]? = some (wd m j) := by simp [wd, show j < m.length by omega]
      have e1 : IntKind.i64.wrap ((j : Int) + 1) = ((j + 1 : Nat) : Int) := wrap_nat (by omega) (by omega)
      have st := store_tw (part (fun i => wd l i &&& wd m i) n j) j (wd l j &&& wd m j) (by rw [length_part]; exact hj) 39 0
      rw [part_set (fun i => wd l i &&& wd m i)] at st
      simp -implicitDefEqProofs [S15, hj, iaddr_dec ha, iaddr_dec hb, h1, h2, load_drop _ x1, load_drop _ x2, st, e1]
      refine sub_forget rfl rfl ?_ ?_ <;> simp -implicitDefEqProofs
    · refine mc_runs ctx1 ?_
      simp -implicitDefEqProofs [S15]
      refine Next.mk () trivial (sub_forget rfl rfl ?_ ?_) <;> simp -implicitDefEqProofs
  · rintro _ -
    refine mc_runs ctx1 ?_
    have hp : part (fun i => wd l i &&& wd m i) n n = andL l m := by rw [part_all, andL, ← hn]
    have hz : (andL l m).length = n := by rw [← hp, length_part]
    have gn := gNormal_sl (andL l m) n hz.symm (by omega)
    have tk : List.take n ((andL l m).map tw) = (andL l m).map tw := List.take_of_length_le (by simp [hz])
    simp -implicitDefEqProofs [S15, hp, hz, allT_tw, gn, tb1, tk]
def S17 (a b : T) (n : Nat) (f : Nat → W) (j : Nat) : AState :=
  ⟨[(15, .t (.v (.int .i64 (j : Int)))), (14, .t (.v (.int .i64 (n : Int)))), (5, .row 0 0 n 1), (1, .t b), (0, .t a)], [(0, .cells 39 ((part f n j).map tw))], 1, 31⟩

def orL (l m : List W) : List W := (List.range (max l.length m.length)).map fun i => wd l i ||| wd m i

theorem or_call {a b : T} {l m : List W} (ha : decB a = some l) (hb : decB b = some m) (hl : l.length ≤ 1000) (hm : m.length ≤ 1000) : CallT Tryd.prog G 17 [a, b] (· = encB (normL (orL l m))) := by
  refine k17.call rfl ?_
  unfold M17
  refine mc_seq_runs ctx1 ?_
  simp -implicitDefEqProofs
  refine mc_seq_runs ctx1 ?_
  obtain ⟨n, hn⟩ : ∃ n, n = max l.length m.length := ⟨_, rfl⟩
  have hmin : (if l.length < m.length then (m.length : Int) else (l.length : Int)) = (n : Int) := by split <;> omega
  have hb1 : (8 : Int) * (n : Int) ≤ 281474976710656 := by omega
  have hb2 : (n : Int) ≤ 9223372036854775807 := by omega
  simp -implicitDefEqProofs [len_dec ha, len_dec hb, makeM, hmin, hb1, hb2, zeros_tw]
  refine mc_cut (fun _ : Unit => S17 a b n (fun i => wd l i ||| wd m i) n) (fun _ => True) (fun _ => rfl) ?_ ?_
  · refine mc_seq_runs ctx1 ?_
    simp -implicitDefEqProofs [lenslM]
    refine mc_block ?_
    refine mc_for (S17 a b n (fun i => wd l i ||| wd m i)) n (fun _ => rfl) ?_ rfl ?_ ?_
    · refine sub_forget rfl rfl ?_ ?_ <;> simp -implicitDefEqProofs [S17, part_zero]
    · intro j hj
      refine mc_runs ctx1 ?_
      have w1 := gWord_eq ha j
      have w2 := gWord_eq hb j
      have e1 : IntKind.i64.wrap ((j : Int) + 1) = ((j + 1 : Nat) : Int) := wrap_nat (by omega) (by omega)
      have st := store_tw (part (fun i => wd l i ||| wd m i) n j) j (wd l j ||| wd m j) (by rw [length_part]; exact hj) 39 0
      rw [part_set (fun i => wd l i ||| wd m i)] at st
      simp -implicitDefEqProofs [S17, hj, w1, w2, tb1, st, e1]
      refine sub_forget rfl rfl ?_ ?_ <;> simp -implicitDefEqProofs
    · refine mc_runs ctx1 ?_
      simp -implicitDefEqProofs [S17]
      refine Next.mk () trivial (sub_forget rfl rfl ?_ ?_) <;> simp -implicitDefEqProofs
  · rintro _ -
    refine mc_runs ctx1 ?_
    have hp : part (fun i => wd l i ||| wd m i) n n = orL l m := by rw [part_all, orL, ← hn]
    have hz : (orL l m).length = n := by rw [← hp, length_part]
    have gn := gNormal_sl (orL l m) n hz.symm (by omega)
    have tk : List.take n ((orL l m).map tw) = (orL l m).map tw := List.take_of_length_le (by simp [hz])
    simp -implicitDefEqProofs [S17, hp, hz, allT_tw, gn, tb1, tk]

def S19 (a b : T) (n : Nat) (f : Nat → W) (j : Nat) : AState :=
  ⟨[(12, .t (.v (.int .i64 (j : Int)))), (11, .t (.v (.int .i64 (n : Int)))), (5, .row 0 0 n 1), (1, .t b), (0, .t a)], [(0, .cells 39 ((part f n j).map tw))], 1, 29⟩

def minusL (l m : List W) : List W := (List.range (l.length)).map fun i => wd l i &&& ~~~ wd m i

theorem minus_call {a b : T} {l m : List W} (ha : decB a = some l) (hb : decB b = some m) (hl : l.length ≤ 1000) (hm : m.length ≤ 1000) : CallT Tryd.prog G 19 [a, b] (· = encB (normL (minusL l m))) := by
  refine k19.call rfl ?_
  unfold M19
  refine mc_seq_runs ctx1 ?_
  simp -implicitDefEqProofs
  refine mc_seq_runs ctx1 ?_
  obtain ⟨n, hn⟩ : ∃ n, n = l.length := ⟨_, rfl⟩
  have hmin : (l.length : Int) = (n : Int) := by omega
  have hb1 : (8 : Int) * (n : Int) ≤ 281474976710656 := by omega
  have hb2 : (n : Int) ≤ 9223372036854775807 := by omega
  simp -implicitDefEqProofs [len_dec ha, len_dec hb, makeM, hmin, hb1, hb2, zeros_tw]
  refine mc_cut (fun _ : Unit => S19 a b n (fun i => wd l i &&& ~~~ wd m i) n) (fun _ => True) (fun _ => rfl) ?_ ?_
  · refine mc_seq_runs ctx1 ?_
    simp -implicitDefEqProofs [lenslM]
    refine mc_block ?_
    refine mc_for (S19 a b n (fun i => wd l i &&& ~~~ wd m i)) n (fun _ => rfl) ?_ rfl ?_ ?_
    · refine sub_forget rfl rfl ?_ ?_ <;> simp -implicitDefEqProofs [S19, part_zero]
    · intro j hj
      refine mc_runs ctx1 ?_
      have h1 : (j : Int) < (l.length : Int) := by omega
      have x1 : l[j]? = some (wd l j) := by simp [wd, show j < l.length by omega]
      have w2 := gWord_eq hb j
      have e1 : IntKind.i64.wrap ((j : Int) + 1) = ((j + 1 : Nat) : Int) := wrap_nat (by omega) (by omega)
      have st := store_tw (part (fun i => wd l i &&& ~~~ wd m i) n j) j (wd l j &&& ~~~ wd m j) (by rw [length_part]; exact hj) 39 0
      rw [part_set (fun i => wd l i &&& ~~~ wd m i)] at st
      simp -implicitDefEqProofs [S19, hj, iaddr_dec ha, h1, load_drop _ x1, w2, tb1, st, e1]
      refine sub_forget rfl rfl ?_ ?_ <;> simp -implicitDefEqProofs
    · refine mc_runs ctx1 ?_
      simp -implicitDefEqProofs [S19]
      refine Next.mk () trivial (sub_forget rfl rfl ?_ ?_) <;> simp -implicitDefEqProofs
  · rintro _ -
    refine mc_runs ctx1 ?_
    have hp : part (fun i => wd l i &&& ~~~ wd m i) n n = minusL l m := by rw [part_all, minusL, ← hn]
    have hz : (minusL l m).length = n := by rw [← hp, length_part]
    have gn := gNormal_sl (minusL l m) n hz.symm (by omega)
    have tk : List.take n ((minusL l m).map tw) = (minusL l m).map tw := List.take_of_length_le (by simp [hz])
    simp -implicitDefEqProofs [S19, hp, hz, allT_tw, gn, tb1, tk]

end Go.Proofs.YtlebaobbjehaeaaDoor
