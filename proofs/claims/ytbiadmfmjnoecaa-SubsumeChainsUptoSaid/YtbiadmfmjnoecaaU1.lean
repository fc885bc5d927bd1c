/-
  Sets of words as trees; the sets' functions: what they return (after the texts of chapter 02).
-/
import Derived.Test.YtbiadmfmjnoecaaM1
import Derived.Test.YtbiadmfmjnoecaaB2
namespace Go.Proofs.Ytbiadmfmjnoecaa
set_option linter.unusedSimpArgs false
set_option linter.unusedVariables false
open Go Go.Abs


theorem mixed : Try.prog.follows .mixedOrders = true := by kernel_rfl
abbrev W := BitVec 64

def uv (x : W) : T := .v (.int .u64 (x.toNat : Int))
def nilT : T := .v (.slice none 0 0)
def encB (l : List W) : T := .sl l.length (l.map uv)

def decU : T → Option W
  | .v (.int .u64 n) => if 0 ≤ n ∧ n < 18446744073709551616 then some (BitVec.ofNat 64 n.toNat) else none
  | _ => none

def decUs : List T → Option (List W)
  | [] => some []
  | t :: ts => match decU t, decUs ts with
    | some x, some xs => some (x :: xs)
    | _, _ => none

def decB : T → Option (List W)
  | .v (.slice none 0 0) => some []
  | .sl n cs => if n = cs.length then decUs cs else none
  | _ => none

theorem decU_some {t : T} {x : W} (h : decU t = some x) : t = uv x := by
  unfold decU at h
  split at h
  · rename_i n
    split at h
    · rename_i hn
      injection h with h
      subst h
      unfold uv
      rw [BitVec.toNat_ofNat, Nat.mod_eq_of_lt (by omega)]
      congr 2
      omega
    · cases h
  · cases h

theorem decU_uv (x : W) : decU (uv x) = some x := by
  unfold uv decU
  have := x.isLt
  simp only
  rw [if_pos ⟨by omega, by omega⟩]
  simp

theorem decUs_some : ∀ {ts : List T} {xs : List W}, decUs ts = some xs → ts = xs.map uv
  | [], xs, h => by simp only [decUs, Option.some.injEq] at h; simp [← h]
  | t :: ts, xs, h => by
    simp only [decUs] at h
    split at h
    · rename_i x xs' hx hxs
      injection h with h; subst h
      simp [decU_some hx, decUs_some hxs]
    · cases h

theorem decUs_map : ∀ (xs : List W), decUs (xs.map uv) = some xs
  | [] => rfl
  | x :: xs => by simp only [List.map_cons, decUs, decU_uv, decUs_map xs]

theorem decB_encB (l : List W) : decB (encB l) = some l := by
  unfold encB decB
  simp [decUs_map]

theorem decB_nil : decB nilT = some [] := rfl

theorem decB_cases {t : T} {l : List W} (h : decB t = some l) : (t = nilT ∧ l = []) ∨ t = encB l := by
  unfold decB at h
  split at h
  · injection h with h; exact .inl ⟨rfl, h.symm⟩
  · rename_i n cs
    split at h
    · rename_i hn
      have := decUs_some h
      subst this
      right
      unfold encB
      simp at hn
      rw [hn]
    · cases h
  · cases h

section
variable {t : T} {l : List W}

theorem len_dec (h : decB t = some l) : lenslM (.t t) = some (.t (.v (.int .i64 (l.length : Int)))) := by
  rcases decB_cases h with ⟨rfl, rfl⟩ | rfl
  · rfl
  · rfl

theorem iaddr_dec (h : decB t = some l) (k : IntKind) (i : Int) (h0 : 0 ≤ i) (h1 : i < l.length) : iaddrM 1 (.t t) (.t (.v (.int k i))) = some (.t (.pt ((l.map uv).drop i.toNat))) := by
  rcases decB_cases h with ⟨rfl, rfl⟩ | rfl
  · simp at h1; omega
  · simp only [iaddrM, encB]
    rw [if_pos ⟨h0, h1⟩]
    simp

end

theorem load_drop {l : List W} {i : Nat} {x : W} (H : Heap) (h : l[i]? = some x) : loadM false 1 H (.t (.pt ((l.map uv).drop i))) = some (.t (uv x)) := by
  simp [loadM, h]




def wd (l : List W) (i : Nat) : W := l.getD i 0

theorem ctx0 : Ctx Try.prog G (orc []) := TblOK.nil.ctx mixed

theorem word_any {b : T} {l : List W} (hb : decB b = some l) (i : Nat) : CallT Try.prog G 94 [b, .v (.int .i64 (i : Int))] (· = uv (wd l i)) := by
  by_cases hi : i < l.length
  · have hx : l[i]? = some (wd l i) := by simp [wd, hi]
    refine k_bits_word.runs ctx0 rfl ?_
    simp -implicitDefEqProofs [M_bits_word, len_dec hb, iaddr_dec hb, load_drop _ hx, hi]
  · refine k_bits_word.runs ctx0 rfl ?_
    have hw : wd l i = 0 := by simp [wd, hi]
    simp -implicitDefEqProofs [M_bits_word, len_dec hb, hi, hw, uv]

def normL (l : List W) : List W := (l.reverse.dropWhile (· == 0)).reverse

theorem normL_zero {l : List W} {a : Nat} (ha : a < l.length) (h : l[a]? = some 0) : normL (l.take (a + 1)) = normL (l.take a) := by
  rw [List.take_add_one, h]
  simp -implicitDefEqProofs [normL]

theorem normL_stop {l : List W} {a : Nat} {x : W} (h : l[a]? = some x) (hx : x ≠ 0) : normL (l.take (a + 1)) = l.take (a + 1) := by
  rw [List.take_add_one, h]
  have : (x == 0) = false := by simpa using hx
  simp -implicitDefEqProofs only [normL, Option.toList_some, List.reverse_append, List.reverse_cons, List.reverse_nil, List.nil_append, List.cons_append, List.dropWhile_cons, this, Bool.false_eq_true, if_false, List.reverse_reverse]

def Sn (N : Nat) (t : T) (a : Nat) : AState := ⟨[(3, .t (.v (.int .i64 (a : Int)))), (0, .t t)], [], 0, N⟩


theorem normal_enc (l : List W) (hl : l.length < 9223372036854775808) : CallT Try.prog G 95 [encB l] (· = encB (normL l)) := by
  have hb := decB_encB l
  refine k_bits_normal.call rfl ?_
  unfold M_bits_normal
  refine mc_seq_runs ctx0 ?_
  simp -implicitDefEqProofs
  refine mc_seq_runs ctx0 ?_
  simp -implicitDefEqProofs [len_dec hb]
  refine mc_cut (Sn 21 (encB l)) (fun a => a ≤ l.length ∧ normL l = l.take a) (fun _ => rfl) ?_ ?_
  · refine mc_block ?_
    refine mc_while (Sn 21 (encB l)) id (fun a => a ≤ l.length ∧ normL (l.take a) = normL l) l.length (fun _ => rfl) ⟨Nat.le_refl _, by simp⟩ ?_ rfl ?_
    · refine sub_forget rfl rfl ?_ ?_ <;> simp -implicitDefEqProofs [Sn]
    · rintro a ⟨ha, hn⟩
      refine mc_runs ctx0 ?_
      cases a with
      | zero =>
        simp -implicitDefEqProofs [Sn]
        refine Next.mk 0 ?_ (sub_forget rfl rfl ?_ ?_)
        · exact ⟨by omega, by rw [← hn]; simp [normL]⟩
        all_goals simp -implicitDefEqProofs [Sn]
      | succ a =>
        have e1 : IntKind.i64.wrap (a : Int) = (a : Int) := wrap_i64 (by omega) (by omega)
        obtain ⟨x, hx⟩ : ∃ x, l[a]? = some x := ⟨_, List.getElem?_eq_getElem (by omega)⟩
        have ha' : a < l.length := by omega
        by_cases h0 : x = 0
        · subst h0
          simp -implicitDefEqProofs [Sn, e1, iaddr_dec hb, load_drop _ hx, ha', uv]
          refine Next.mk a ?_ (sub_forget rfl rfl ?_ ?_)
          · exact ⟨⟨by omega, by rw [← hn, normL_zero ha' hx]⟩, by simp⟩
          all_goals simp -implicitDefEqProofs [Sn]
        · have h0' : ((x.toNat : Int) == 0) = false := by
            rw [beq_eq_false_iff_ne]
            exact fun h => h0 (BitVec.eq_of_toNat_eq (by simpa using h))
          simp -implicitDefEqProofs [Sn, e1, iaddr_dec hb, load_drop _ hx, ha', uv, h0']
          refine Next.mk (a + 1) ?_ (sub_forget rfl rfl ?_ ?_)
          · exact ⟨by omega, by rw [← hn, normL_stop hx h0]⟩
          all_goals simp -implicitDefEqProofs [Sn]
  · rintro a ⟨ha, hn⟩
    refine mc_runs ctx0 ?_
    simp -implicitDefEqProofs [Sn, encB, sliceM, ha, hn]



def tw (x : W) : PV := .t (uv x)
@[simp] theorem cellsP_uv (x : W) : cellsP (.t (uv x)) = some [.t (uv x)] := rfl

/-- The first j of n places filled by f. -/
def part (f : Nat → W) (n j : Nat) : List W := (List.range n).map fun i => if i < j then f i else 0
theorem length_part (f : Nat → W) (n j : Nat) : (part f n j).length = n := by simp [part]
theorem part_zero (f : Nat → W) (n : Nat) : part f n 0 = List.replicate n 0 := by
  apply List.ext_getElem <;> simp [part]
theorem part_set (f : Nat → W) (n j : Nat) : (part f n j).set j (f j) = part f n (j + 1) := by
  apply List.ext_getElem
  · simp [part]
  · intro i h1 h2
    simp only [part, List.getElem_set, List.getElem_map, List.getElem_range]
    by_cases h : j = i
    · subst h; simp
    · rw [if_neg h]
      congr 1
      apply propext
      omega
theorem part_all (f : Nat → W) (n : Nat) : part f n n = (List.range n).map f := by
  apply List.ext_getElem
  · simp [part]
  · intro i h1 h2
    simp only [part, List.length_map, List.length_range] at h1
    simp [part, h1]

theorem zeros_tw (n : Nat) : zeros [.int .u64 0] n = (List.replicate n (0 : W)).map tw := by
  simp [zeros, tw, uv]

theorem store_tw (l : List W) (i : Nat) (x : W) (h : i < l.length) (ty b : Nat) : storeM 1 [(b, .cells ty (l.map tw))] (.ptr b i) (.t (uv x)) = some [(b, .cells ty ((l.set i x).map tw))] := by
  have h' : i + 1 ≤ l.length := by omega
  simp -implicitDefEqProofs [storeM, splice, h', List.map_set, tw]

theorem allT_tw (l : List W) : allT (l.map tw) = some (l.map uv) := by
  have : l.map tw = (l.map uv).map PV.t := by simp [tw]
  rw [this, allT_map_t]

section
variable {Φ : Oracle} {H : Heap} {nx : Nat}
@[simp] theorem iaddr_row (b o n z' : Nat) (k : IntKind) (i : Int) (h0 : 0 ≤ i) (h1 : i < n) : iaddrM 1 (.row b o n z') (.t (.v (.int k i))) = some (.ptr b (o + i.toNat)) := by
  simp [iaddrM, h0, h1]
@[simp] theorem uv_and (isB : Bool) (nk : Option NK) (x y : W) : evalK Φ H nx (.bin isB .and nk) [.t (uv x), .t (uv y)] = some (.t (uv (x &&& y)), H, nx) := by
  simp only [uv, evalK_and, kbits_u64, ofInt_toNat, wrap_toNat]; rfl
@[simp] theorem uv_or (isB : Bool) (nk : Option NK) (x y : W) : evalK Φ H nx (.bin isB .or nk) [.t (uv x), .t (uv y)] = some (.t (uv (x ||| y)), H, nx) := by
  simp only [uv, evalK_or, kbits_u64, ofInt_toNat, wrap_toNat]; rfl
@[simp] theorem uv_xor (isB : Bool) (nk : Option NK) (x y : W) : evalK Φ H nx (.bin isB .xor nk) [.t (uv x), .t (uv y)] = some (.t (uv (x ^^^ y)), H, nx) := by
  simp only [uv, evalK_xor, kbits_u64, ofInt_toNat, wrap_toNat]; rfl
@[simp] theorem uv_andNot (isB : Bool) (nk : Option NK) (x y : W) : evalK Φ H nx (.bin isB .andNot nk) [.t (uv x), .t (uv y)] = some (.t (uv (x &&& ~~~ y)), H, nx) := by
  simp only [uv, evalK_andNot, kbits_u64, ofInt_toNat, wrap_toNat]; rfl
end

def gNormal : List T → Option T
  | [t] => match decB t with
    | some l => if l.length < 9223372036854775808 then (match t with | .sl _ _ => some (encB (normL l)) | _ => none) else none
    | none => none
  | _ => none

theorem normal_ok : GOK Try.prog G 95 gNormal := by
  intro args r h
  unfold gNormal at h
  split at h
  · rename_i t
    split at h
    · rename_i l hl
      split at h
      · rename_i hlt
        split at h
        · injection h with h; subst h
          rcases decB_cases hl with ⟨h1, _⟩ | h1
          · cases h1
          · rw [h1]; exact normal_enc l hlt
        · cases h
      · cases h
    · cases h
  · cases h

theorem gNormal_enc (l : List W) (h : l.length < 9223372036854775808) : gNormal [encB l] = some (encB (normL l)) := by
  have := decB_encB l
  unfold gNormal
  simp only [this, h, if_true]
  rfl
theorem gNormal_sl (l : List W) (n : Nat) (hn : n = l.length) (h : l.length < 9223372036854775808) : gNormal [.sl n (l.map uv)] = some (encB (normL l)) := by
  subst hn; exact gNormal_enc l h

def gWord : List T → Option T
  | [t, .v (.int .i64 i)] => match decB t with
    | some l => if 0 ≤ i then some (uv (wd l i.toNat)) else none
    | none => none
  | _ => none
theorem word_ok : GOK Try.prog G 94 gWord := by
  intro args r h
  unfold gWord at h
  split at h
  · split at h
    · rename_i i l hl
      split at h
      · rename_i h0
        injection h with h; subst h
        obtain ⟨n, rfl⟩ := Int.eq_ofNat_of_zero_le h0
        exact word_any hl n
      · cases h
    · cases h
  · cases h
theorem gWord_eq {t : T} {l : List W} (h : decB t = some l) (i : Nat) : gWord [t, .v (.int .i64 (i : Int))] = some (uv (wd l i)) := by
  simp [gWord, h]

def tb1 : Tbl := [(95, gNormal), (94, gWord)]
theorem ctx1 : Ctx Try.prog G (orc tb1) := (TblOK.cons normal_ok (TblOK.cons word_ok TblOK.nil)).ctx mixed

def andL (l m : List W) : List W := (List.range (min l.length m.length)).map fun i => wd l i &&& wd m i

def S17 (a b : T) (n : Nat) (f : Nat → W) (j : Nat) : AState :=
  ⟨[(15, .t (.v (.int .i64 (j : Int)))), (14, .t (.v (.int .i64 (n : Int)))), (5, .row 0 0 n 1), (1, .t b), (0, .t a)], [(0, .cells 142 ((part f n j).map tw))], 1, 31⟩

def orL (l m : List W) : List W := (List.range (max l.length m.length)).map fun i => wd l i ||| wd m i

theorem or_call {a b : T} {l m : List W} (ha : decB a = some l) (hb : decB b = some m) (hl : l.length ≤ 1000) (hm : m.length ≤ 1000) : CallT Try.prog G 70 [a, b] (· = encB (normL (orL l m))) := by
  refine k_bits_Or.call rfl ?_
  unfold M_bits_Or
  refine mc_seq_runs ctx1 ?_
  simp -implicitDefEqProofs
  refine mc_seq_runs ctx1 ?_
  obtain ⟨n, hn⟩ : ∃ n, n = max l.length m.length := ⟨_, rfl⟩
  have hmin : (if l.length < m.length then (m.length : Int) else (l.length : Int)) = (n : Int) := by split <;> omega
  have hb1 : (8 : Int) * (n : Int) ≤ 281474976710656 := by omega
  have hb2 : (n : Int) ≤ 9223372036854775807 := by omega
  simp -implicitDefEqProofs [len_dec ha, len_dec hb, makeM, hmin, hb1, hb2, zeros_tw]
  refine mc_cut (fun _ : Unit => S17 a b n (fun i => wd l i ||| wd m i) n) (fun _ => True) (fun _ => rfl) ?_ ?_
  · refine mc_seq_runs ctx1 ?_
    simp -implicitDefEqProofs [lenslM]
    refine mc_block ?_
    refine mc_for (S17 a b n (fun i => wd l i ||| wd m i)) n (fun _ => rfl) ?_ rfl ?_ ?_
    · refine sub_forget rfl rfl ?_ ?_ <;> simp -implicitDefEqProofs [S17, part_zero]
    · intro j hj
      refine mc_runs ctx1 ?_
      have w1 := gWord_eq ha j
      have w2 := gWord_eq hb j
      have e1 : IntKind.i64.wrap ((j : Int) + 1) = ((j + 1 : Nat) : Int) := wrap_nat (by omega) (by omega)
      have st := store_tw (part (fun i => wd l i ||| wd m i) n j) j (wd l j ||| wd m j) (by rw [length_part]; exact hj) 142 0
      rw [part_set (fun i => wd l i ||| wd m i)] at st
      simp -implicitDefEqProofs [S17, hj, w1, w2, tb1, st, e1]
      refine sub_forget rfl rfl ?_ ?_ <;> simp -implicitDefEqProofs
    · refine mc_runs ctx1 ?_
      simp -implicitDefEqProofs [S17]
      refine Next.mk () trivial (sub_forget rfl rfl ?_ ?_) <;> simp -implicitDefEqProofs
  · rintro _ -
    refine mc_runs ctx1 ?_
    have hp : part (fun i => wd l i ||| wd m i) n n = orL l m := by rw [part_all, orL, ← hn]
    have hz : (orL l m).length = n := by rw [← hp, length_part]
    have gn := gNormal_sl (orL l m) n hz.symm (by omega)
    have tk : List.take n ((orL l m).map tw) = (orL l m).map tw := List.take_of_length_le (by simp [hz])
    simp -implicitDefEqProofs [S17, hp, hz, allT_tw, gn, tb1, tk]

def minusL (l m : List W) : List W := (List.range (l.length)).map fun i => wd l i &&& ~~~ wd m i

end Go.Proofs.Ytbiadmfmjnoecaa
