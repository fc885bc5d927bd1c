/-
  The laws TextTokens and TextLines return true. No statement of the program stands here.
  The law TextLines returns true. No statement of the program stands here.
-/
import Derived.Test.YtbabdjhikamkoaaDoorQ17
namespace Go.Proofs.YtbabdjhikamkoaaDoor
set_option linter.unusedSimpArgs false
set_option linter.unusedVariables false
open Go Go.Abs
variable {q : Gl}

theorem w0_ (a b c : T) (H : Heap) : loadM false 1 ((0, .cells 39 [.t a, .t b, .t c]) :: H) (.ptr 0 0) = some (.t a) := rfl
theorem w1_ (a b c : T) (H : Heap) : loadM false 1 ((0, .cells 39 [.t a, .t b, .t c]) :: H) (.ptr 0 1) = some (.t b) := rfl

theorem written_call (t : Tok) (hl : t.t.length ≤ 65536) : CallT Tryd.prog (G q) 27 [.ag (eTok.enc t)] (· = sv (bs (wrT t))) := by
  refine k_w01_written.runs ctx0 rfl ?_
  have s1 := cat (Φ := orc []) (a := [34]) (b := t.t) (by simp; omega)
  have s2 := cat (Φ := orc []) (a := 34 :: t.t) (b := [34]) (by simp; omega)
  have cp : cellsP (.t (.ag [iv t.k, sv (bs t.t), iv (t.l : Int)])) = some [.t (iv t.k), .t (sv (bs t.t)), .t (iv (t.l : Int))] := rfl
  by_cases h3 : t.k = 3
  · have b3 : (t.k == 3) = true := by rw [h3]; rfl
    have hw : wrT t = 34 :: t.t ++ [34] := by rw [wrT, wr, if_pos h3]
    rw [hw]
    simp -implicitDefEqProofs [M_w01_written, eTok, cp, w0_, w1_, b3, s1, s2]
  · have b3 : (t.k == 3) = false := by rw [beq_eq_false_iff_ne]; exact h3
    have hw : wrT t = t.t := by rw [wrT, wr, if_neg h3]
    rw [hw]
    simp -implicitDefEqProofs [M_w01_written, eTok, cp, w0_, w1_, b3]

noncomputable def gWr : List T → Option T := g1 (tAg eTok) fun t => if t.t.length ≤ 65536 then some (sv (bs (wrT t))) else none
theorem hWr : GOK Tryd.prog (G q) 27 gWr := g1_ok fun a t r ha hr => by
  have e1 : a = .ag (eTok.enc t) := ha
  subst e1
  split at hr
  · rename_i h; injection hr with hr; subst hr; exact written_call t h
  · cases hr
noncomputable def tbK6 : Tbl := [(10, gEx), (24, gStr (fun s => scanT s.data.toList) lim), (27, gWr)]
theorem ctxK6 : Ctx Tryd.prog (G q) (orc tbK6) := (TblOK.cons hEx (.cons (gStr_ok scan_call) (.cons hWr .nil))).ctx mixed

theorem line_part (ts : List Tok) (j : Nat) : (lineOf (ts.take j)).length ≤ (lineOf ts).length := by
  have : lineOf ts = lineOf (ts.take j) ++ lineOf (ts.drop j) := by
    unfold lineOf
    rw [← List.flatMap_append, List.take_append_drop]
  rw [this, List.length_append]; omega
theorem line_next (ts : List Tok) (j : Nat) (x : Tok) (h : ts[j]? = some x) : lineOf (ts.take (j + 1)) = (lineOf (ts.take j) ++ [32]) ++ wrT x := by
  rw [List.take_add_one, h]
  simp [lineOf]
theorem wr_len (t : Tok) : t.t.length ≤ (wrT t).length := by
  unfold wrT wr; split
  · simp; omega
  · exact Nat.le_refl _

def ST6 (u : T) (ts : List Tok) (j : Nat) : AState := ⟨[(7, .t (iv (j : Int))), (6, .t (sv (bs (lineOf (ts.take j))))), (3, .t u)], [], 0, 102⟩
def ST7 (u : T) (ts : List Tok) : AState := ⟨[(6, .t (sv (bs (lineOf ts)))), (3, .t u)], [], 0, 102⟩
def ST8 (u v : T) (j : Nat) : AState := ⟨[(11, .t (iv (j : Int))), (8, .t v), (3, .t u)], [], 0, 102⟩
def ST9 : AState := ⟨[], [], 0, 102⟩

theorem lp1 (c : T) (R : List T) (H : Heap) : loadM false 1 H (.t (.pt (c :: R))) = some (.t c) := rfl

theorem tokens_law (s : ByteArray) (hs : s.size ≤ lim) : CallT Tryd.prog (G q) 8 [sv s] (· = bv true) := by
  refine k_w01_TextTokens.call rfl ?_
  have ex : gEx [] = some (bv true) := rfl
  have hlen : s.data.toList.length = s.size := rfl
  have q1 := gStr_eq (f := fun s => scanT s.data.toList) (n := lim) (s := s) hs
  have limv : lim = 9223372036854775807 := rfl
  by_cases h : 1000 < s.size
  · have h' : (1000 : Int) < (s.size : Int) := by omega
    refine mc_runs ctxK6 ?_
    simp -implicitDefEqProofs [M_w01_TextTokens, h', tbK6, ex]
  have h' : ¬ (1000 : Int) < (s.size : Int) := by omega
  have hT : scanT s.data.toList = match scanS s.data.toList 1 with
    | .error x => .tu [nilS, iv (x.1 : Int), iv x.2]
    | .ok ts => .tu [treeS eTok ts, iv 0, iv 0] := by rw [scanT, if_neg (by omega)] <;> cases scanS s.data.toList 1 <;> rfl
  unfold M_w01_TextTokens
  refine mc_seq_runs ctxK6 ?_
  simp -implicitDefEqProofs
  refine mc_seq_runs ctxK6 ?_
  simp -implicitDefEqProofs [h']
  cases hr : scanS s.data.toList 1 with
  | error x =>
    rw [hr] at hT
    simp only at hT
    rw [hT] at q1
    obtain ⟨x1, x2⟩ := scanS_err hr
    have b0 : (x.2 != 0) = true := by rw [bne_iff_ne]; exact x2
    have b1 : decide ((1 : Int) ≤ (x.1 : Int)) = true := decide_eq_true (by omega)
    have b1' : (1 : Int) ≤ (x.1 : Int) := by omega
    have ln : lenslM (.t nilS) = some (.t (iv 0)) := rfl
    refine mc_runs ctxK6 ?_
    simp -implicitDefEqProofs [tbK6, ex, q1, extractV, b0, ln, b1, b1']
  | ok ts =>
    rw [hr] at hT
    simp only at hT
    rw [hT] at q1
    obtain ⟨w1, w2⟩ := scan_written _ _ _ hr
    have tl := scanS_len hr
    obtain ⟨u, hu⟩ : ∃ u, u = treeS eTok ts := ⟨_, rfl⟩
    have iu : IsS eTok u ts := by rw [hu]; exact IsS.tree eTok ts
    rw [← hu] at q1
    have l1 := iu.len
    obtain ⟨L, hL⟩ : ∃ L, L = lineOf ts := ⟨_, rfl⟩
    rw [← hL] at w1 w2
    have hsz : (bs L).size = L.length := rfl
    obtain ⟨ts', hts'⟩ : ∃ ts' : List Tok, ts' = ts.map fun t => ⟨t.k, t.t, 1⟩ := ⟨_, rfl⟩
    rw [← hts'] at w1
    have q2 := gStr_eq (f := fun s => scanT s.data.toList) (n := lim) (s := bs L) (by omega)
    have hT2 : scanT (bs L).data.toList = .tu [treeS eTok ts', iv 0, iv 0] := by
      have e : (bs L).data.toList = L := rfl
      rw [e, scanT, if_neg (by omega), w1]
    rw [hT2] at q2
    obtain ⟨v, hv⟩ : ∃ v, v = treeS eTok ts' := ⟨_, rfl⟩
    have iv' : IsS eTok v ts' := by rw [hv]; exact IsS.tree eTok ts'
    rw [← hv] at q2
    have l2 := iv'.len
    have hl' : ts'.length = ts.length := by rw [hts', List.length_map]
    rw [hl'] at l2
    refine mc_seq_runs ctxK6 ?_
    simp -implicitDefEqProofs [tbK6, q1, extractV]
    refine mc_seq_runs ctxK6 ?_
    simp -implicitDefEqProofs
    refine mc_seq_runs ctxK6 ?_
    simp -implicitDefEqProofs
    refine mc_cut (α := Unit) (fun _ => ST7 u ts) (fun _ => True) (fun _ => rfl) ?_ ?_
    · refine mc_seq_runs ctxK6 ?_
      simp -implicitDefEqProofs
      refine mc_block ?_
      refine mc_for (ST6 u ts) ts.length (fun _ => rfl) ?_ rfl ?_ ?_
      · refine sub_forget rfl rfl ?_ ?_ <;> simp -implicitDefEqProofs [ST6, lineOf]
      · intro j hj
        refine mc_runs ctxK6 ?_
        obtain ⟨x, hx⟩ : ∃ x, ts[j]? = some x := ⟨_, List.getElem?_eq_getElem hj⟩
        have hnx := line_next ts j x hx
        have hle := line_part ts (j + 1)
        rw [← hL] at hle
        have hwl := wr_len x
        have hsum := congrArg List.length hnx
        rw [List.length_append, List.length_append] at hsum
        simp only [List.length_singleton] at hsum
        obtain ⟨K, hK⟩ : ∃ K, K = lineOf (ts.take j) := ⟨_, rfl⟩
        rw [← hK] at hnx hsum
        have i1 : iaddrM 3 (.t u) (.t (iv (j : Int))) = some (.t (.pt (eTok.enc x ++ rest eTok ts j))) := iu.iaddr hx .i64
        have ld : loadM true 3 [] (.t (.pt (eTok.enc x ++ rest eTok ts j))) = some (.t (.ag (eTok.enc x))) := rfl
        have s1 := cat (Φ := orc tbK6) (a := K) (b := [32]) (by simp; omega)
        have s2 := cat (Φ := orc tbK6) (a := K ++ [32]) (b := wrT x) (by simp; omega)
        have qw : gWr [.ag (eTok.enc x)] = some (sv (bs (wrT x))) := by rw [gWr, g1_eq (τ := tAg eTok) (x := x) rfl, if_pos (by omega)]
        have e1 : IntKind.i64.wrap ((j : Int) + 1) = ((j + 1 : Nat) : Int) := wrap_nat (by omega) (by omega)
        unfold tbK6 at s1 s2
        simp -implicitDefEqProofs [ST6, l1, hj, i1, ld, ← hK, s1, s2, tbK6, qw, e1, hnx]
        refine sub_forget rfl rfl ?_ ?_ <;> simp -implicitDefEqProofs
      · refine mc_runs ctxK6 ?_
        have et : ts.take ts.length = ts := List.take_length
        simp -implicitDefEqProofs [ST6, l1, et]
        exact Abs.Next.mk () trivial (sub_forget rfl rfl (by simp -implicitDefEqProofs [ST7]) (by simp -implicitDefEqProofs [ST7]))
    rintro _ _
    refine mc_seq_runs ctxK6 ?_
    simp -implicitDefEqProofs [ST7, ← hL, tbK6, q2, extractV]
    refine mc_seq_runs ctxK6 ?_
    simp -implicitDefEqProofs [l1, l2]
    refine mc_cut (α := Unit) (fun _ => ST9) (fun _ => True) (fun _ => rfl) ?_ ?_
    · refine mc_seq_runs ctxK6 ?_
      simp -implicitDefEqProofs
      refine mc_block ?_
      refine mc_for (ST8 u v) ts.length (fun _ => rfl) ?_ rfl ?_ ?_
      · refine sub_forget rfl rfl ?_ ?_ <;> simp -implicitDefEqProofs [ST8]
      · intro j hj
        refine mc_runs ctxK6 ?_
        obtain ⟨x, hx⟩ : ∃ x, ts[j]? = some x := ⟨_, List.getElem?_eq_getElem hj⟩
        have hx' : ts'[j]? = some ⟨x.k, x.t, 1⟩ := by rw [hts', List.getElem?_map, hx]; rfl
        have i1 : iaddrM 3 (.t u) (.t (iv (j : Int))) = some (.t (.pt (iv x.k :: sv (bs x.t) :: iv (x.l : Int) :: rest eTok ts j))) := iu.iaddr hx .i64
        have i2 : iaddrM 3 (.t v) (.t (iv (j : Int))) = some (.t (.pt (iv x.k :: sv (bs x.t) :: iv 1 :: rest eTok ts' j))) := iv'.iaddr hx' .i64
        have e1 : IntKind.i64.wrap ((j : Int) + 1) = ((j + 1 : Nat) : Int) := wrap_nat (by omega) (by omega)
        simp -implicitDefEqProofs [ST8, l1, hj, i1, i2, lp1, e1]
        refine sub_forget rfl rfl ?_ ?_ <;> simp -implicitDefEqProofs
      · refine mc_runs ctxK6 ?_
        simp -implicitDefEqProofs [ST8, l1]
        exact Abs.Next.mk () trivial (sub_forget rfl rfl (by simp -implicitDefEqProofs [ST9]) (by simp -implicitDefEqProofs [ST9]))
    rintro _ _
    refine mc_runs ctxK6 ?_
    simp -implicitDefEqProofs [ST9, tbK6, ex]
end Go.Proofs.YtbabdjhikamkoaaDoor

namespace Go.Proofs.YtbabdjhikamkoaaDoor
set_option linter.unusedSimpArgs false
set_option linter.unusedVariables false
open Go Go.Abs
variable {q : Gl}

noncomputable def tbK7 : Tbl := [(10, gEx), (24, gStr (fun s => scanT s.data.toList) lim)]
theorem ctxK7 : Ctx Tryd.prog (G q) (orc tbK7) := (TblOK.cons hEx (.cons (gStr_ok scan_call) .nil)).ctx mixed

def SL0 (s : ByteArray) (a b c : T) : AState := ⟨[(11, .t c), (8, .t b), (5, .t a), (0, .t (sv s))], [], 0, 154⟩
def SL1 (s : ByteArray) (a b c : T) (j : Nat) : AState := ⟨[(15, .t (iv (j : Int))), (14, .t (iv ((nl (s.data.toList.take j) + 1 : Nat) : Int))), (11, .t c), (8, .t b), (5, .t a), (0, .t (sv s))], [], 0, 154⟩
def SL2 (m : Nat) (a b c : T) : AState := ⟨[(14, .t (iv (m : Int))), (11, .t c), (8, .t b), (5, .t a)], [], 0, 154⟩
def SL3 (m : Nat) (a b c : T) (j : Nat) : AState := ⟨[(16, .t (iv (j : Int))), (14, .t (iv (m : Int))), (11, .t c), (8, .t b), (5, .t a)], [], 0, 154⟩
def SL9 : AState := ⟨[], [], 0, 154⟩

theorem ag3 (x y z : T) (R : List T) (H : Heap) : loadM true 3 H (.t (.pt (x :: y :: z :: R))) = some (.t (.ag [x, y, z])) := by
  simp [loadM]

theorem nl_take_succ (l : List UInt8) (j : Nat) (c : UInt8) (h : l[j]? = some c) : nl (l.take (j + 1)) = nl (l.take j) + (if c.toNat = 10 then 1 else 0) := by
  rw [List.take_add_one, h]
  by_cases h10 : c.toNat = 10 <;> simp [nl, h10]

theorem scanT_of (l : List UInt8) (h : l.length ≤ 65536) : (∃ m e, e ≠ 0 ∧ (∃ x, scanS l 1 = .error x) ∧ scanT l = .tu [nilS, iv m, iv e]) ∨ ∃ ts : List Tok, scanS l 1 = .ok ts ∧ ts.length ≤ l.length ∧ scanT l = .tu [treeS eTok ts, iv 0, iv 0] := by
  unfold scanT
  rw [if_neg (by omega)]
  cases h : scanS l 1 with
  | error x => exact .inl ⟨_, _, (scanS_err h).2, ⟨x, rfl⟩, rfl⟩
  | ok ts => exact .inr ⟨ts, rfl, scanS_len h, rfl⟩

theorem scanG_lines : ∀ (f : Nat) (D : List UInt8) (l : Nat) (ts : List Tok), scanG f D l = .ok ts → ∀ t ∈ ts, t.l ≤ l + D.length
  | 0, D, l, ts, h => by simp only [scanG, Except.ok.injEq] at h; subst h; simp
  | f + 1, [], l, ts, h => by
    rw [scanG] at h
    simp only [List.isEmpty_nil, if_true, Except.ok.injEq] at h
    subst h; simp
  | f + 1, c :: r, l, ts, h => by
    by_cases he : (nextS (c :: r)).e = 0
    · rw [scan_step f c r l he] at h
      split at h
      · cases h
      · rename_i ts' h2
        injection h with h
        subst h
        intro t ht
        rcases List.mem_cons.1 ht with e | e
        · rw [e]; exact Nat.le_add_right _ _
        · have ih := scanG_lines f _ _ _ h2 t e
          have h3 := skip_nl ((c :: r).drop (nextS (c :: r)).n) false
          have h4 := (skip_le ((c :: r).drop (nextS (c :: r)).n) false).1
          rw [List.length_drop] at ih
          rw [List.length_drop] at ih h4
          omega
    · rw [scanG] at h
      simp only [List.isEmpty_cons, Bool.false_eq_true, if_false, ne_eq, he, not_false_eq_true, if_true] at h
      cases h
theorem scanS_lines {D : List UInt8} {l : Nat} {ts : List Tok} (h : scanS D l = .ok ts) : ∀ t ∈ ts, t.l ≤ l + D.length := by
  intro t ht
  have ih := scanG_lines _ _ _ _ h t ht
  have h3 := skip_nl D false
  have h4 := (skip_le D false).1
  rw [List.length_drop] at ih
  omega

set_option maxHeartbeats 2000000 in
theorem lines_law (s t : ByteArray) (hs : s.size ≤ lim) (ht : t.size ≤ lim) : CallT Tryd.prog (G q) 9 [sv s, sv t] (· = bv true) := by
  refine k_w01_TextLines.call rfl ?_
  have ex : gEx [] = some (bv true) := rfl
  have hlen : s.data.toList.length = s.size := rfl
  have tlen : t.data.toList.length = t.size := rfl
  have limv : lim = 9223372036854775807 := rfl
  by_cases h : 1000 < s.size
  · have h' : (1000 : Int) < (s.size : Int) := by omega
    refine mc_runs ctxK7 ?_
    simp -implicitDefEqProofs [M_w01_TextLines, h', tbK7, ex]
  have h' : ¬ (1000 : Int) < (s.size : Int) := by omega
  by_cases h2 : 1000 < t.size
  · have h2' : (1000 : Int) < (t.size : Int) := by omega
    refine mc_runs ctxK7 ?_
    simp -implicitDefEqProofs [M_w01_TextLines, h', h2', tbK7, ex]
  have h2' : ¬ (1000 : Int) < (t.size : Int) := by omega
  obtain ⟨S, hS⟩ : ∃ S, S = s ++ (⟨#[10]⟩ : ByteArray) ++ t := ⟨_, rfl⟩
  have one : (⟨#[10]⟩ : ByteArray).size = 1 := rfl
  have Ssz : S.size = s.size + 1 + t.size := by rw [hS, ByteArray.size_append, ByteArray.size_append, one]
  have a1 := fun isB nk H nx => evalK_sadd (Φ := orc tbK7) (H := H) (nx := nx) isB nk s ⟨#[10]⟩ (by rw [one]; omega)
  have a2 := fun isB nk H nx => evalK_sadd (Φ := orc tbK7) (H := H) (nx := nx) isB nk (s ++ ⟨#[10]⟩) t (by rw [ByteArray.size_append, one]; omega)
  rw [← hS] at a2
  have Sd : S.data.toList = s.data.toList ++ 10 :: t.data.toList := by
    rw [hS]
    simp [ByteArray.data_append]
  have q1 := gStr_eq (f := fun s => scanT s.data.toList) (n := lim) (s := s) hs
  have q2 := gStr_eq (f := fun s => scanT s.data.toList) (n := lim) (s := t) ht
  have q3 := gStr_eq (f := fun s => scanT s.data.toList) (n := lim) (s := S) (by omega)
  obtain ⟨R3, hR3⟩ : ∃ z : T × T × T, scanT S.data.toList = .tu [z.1, z.2.1, z.2.2] := by
    rcases scanT_of S.data.toList (by rw [Sd]; simp; omega) with ⟨m, e, _, _, h⟩ | ⟨ts, _, _, h⟩
    · exact ⟨(_, _, _), h⟩
    · exact ⟨(_, _, _), h⟩
  unfold tbK7 at a1 a2
  rcases scanT_of s.data.toList (by omega) with ⟨m, e, he, _, hA⟩ | ⟨la, hA, lla, hAT⟩
  · have b0 : (e != 0) = true := by rw [bne_iff_ne]; exact he
    rw [hA] at q1
    rw [hR3] at q3
    obtain ⟨q2x, hq2⟩ : ∃ z : T × T × T, scanT t.data.toList = .tu [z.1, z.2.1, z.2.2] := by
      rcases scanT_of t.data.toList (by omega) with ⟨m, e, _, _, h⟩ | ⟨ts, _, _, h⟩
      · exact ⟨(_, _, _), h⟩
      · exact ⟨(_, _, _), h⟩
    rw [hq2] at q2
    refine mc_runs ctxK7 ?_
    simp -implicitDefEqProofs [M_w01_TextLines, h', h2', tbK7, ex, q1, q2, q3, a1, a2, extractV, b0]
  rcases scanT_of t.data.toList (by omega) with ⟨m, e, he, _, hB⟩ | ⟨lb, hB, llb, hBT⟩
  · have b0 : (e != 0) = true := by rw [bne_iff_ne]; exact he
    rw [hAT] at q1
    rw [hB] at q2
    rw [hR3] at q3
    refine mc_runs ctxK7 ?_
    simp -implicitDefEqProofs [M_w01_TextLines, h', h2', tbK7, ex, q1, q2, q3, a1, a2, extractV, b0]
  obtain ⟨m, hm⟩ : ∃ m, m = nl s.data.toList + 1 := ⟨_, rfl⟩
  have hml : m ≤ 1001 := by
    have : nl s.data.toList ≤ s.data.toList.length := List.countP_le_length
    omega
  obtain ⟨lb', hlb'⟩ : ∃ lb' : List Tok, lb' = lb.map fun t => ⟨t.k, t.t, t.l + m⟩ := ⟨_, rfl⟩
  have hj := scan_lines _ _ _ _ hA hB
  rw [← Sd, ← hm, ← hlb'] at hj
  obtain ⟨lc, hlc⟩ : ∃ lc, lc = la ++ lb' := ⟨_, rfl⟩
  rw [← hlc] at hj
  have hCT : scanT S.data.toList = .tu [treeS eTok lc, iv 0, iv 0] := by
    rw [scanT, if_neg (by rw [Sd]; simp; omega), hj]
  rw [hAT] at q1
  rw [hBT] at q2
  rw [hCT] at q3
  obtain ⟨a, ha⟩ : ∃ a, a = treeS eTok la := ⟨_, rfl⟩
  obtain ⟨b, hb⟩ : ∃ b, b = treeS eTok lb := ⟨_, rfl⟩
  obtain ⟨c, hc⟩ : ∃ c, c = treeS eTok lc := ⟨_, rfl⟩
  have ia : IsS eTok a la := by rw [ha]; exact IsS.tree eTok la
  have ib : IsS eTok b lb := by rw [hb]; exact IsS.tree eTok lb
  have ic : IsS eTok c lc := by rw [hc]; exact IsS.tree eTok lc
  rw [← ha] at q1
  rw [← hb] at q2
  rw [← hc] at q3
  have l1 := ia.len
  have l2 := ib.len
  have l3 := ic.len
  have hll : lc.length = la.length + lb.length := by rw [hlc, List.length_append, hlb', List.length_map]
  have w1 : IntKind.i64.wrap ((la.length : Int) + (lb.length : Int)) = (lc.length : Int) := by rw [wrap_i64 (by omega) (by omega)]; omega
  unfold M_w01_TextLines
  refine mc_seq_runs ctxK7 ?_
  simp -implicitDefEqProofs
  refine mc_seq_runs ctxK7 ?_
  simp -implicitDefEqProofs [h', h2']
  refine mc_seq_runs ctxK7 ?_
  simp -implicitDefEqProofs [tbK7, q1, extractV]
  refine mc_seq_runs ctxK7 ?_
  simp -implicitDefEqProofs [tbK7, q2, extractV]
  refine mc_seq_runs ctxK7 ?_
  simp -implicitDefEqProofs [tbK7, a1, a2, q3, extractV]
  refine mc_seq_runs ctxK7 ?_
  simp -implicitDefEqProofs
  refine mc_seq_runs ctxK7 ?_
  simp -implicitDefEqProofs [l1, l2, l3, w1]
  refine mc_seq_runs ctxK7 ?_
  simp -implicitDefEqProofs
  refine mc_cut (α := Unit) (fun _ => SL2 m a b c) (fun _ => True) (fun _ => rfl) ?_ ?_
  · refine mc_seq_runs ctxK7 ?_
    simp -implicitDefEqProofs
    refine mc_block ?_
    refine mc_for (SL1 s a b c) s.size (fun _ => rfl) ?_ rfl ?_ ?_
    · refine sub_forget rfl rfl ?_ ?_ <;> simp -implicitDefEqProofs [SL1, nl]
    · intro j hj
      refine mc_runs ctxK7 ?_
      obtain ⟨x, hx⟩ : ∃ x, s.data.toList[j]? = some x := ⟨_, List.getElem?_eq_getElem (by omega)⟩
      have ix := index_str s j x hx
      have hn := nl_take_succ _ j x hx
      have hnle : nl (s.data.toList.take j) ≤ (s.data.toList.take j).length := List.countP_le_length
      rw [List.length_take] at hnle
      obtain ⟨k, hk⟩ : ∃ k, k = nl (s.data.toList.take j) := ⟨_, rfl⟩
      rw [← hk] at hn hnle
      have e1 : IntKind.i64.wrap ((j : Int) + 1) = ((j + 1 : Nat) : Int) := wrap_nat (by omega) (by omega)
      by_cases h10 : x.toNat = 10
      · have b10 : ((x.toNat : Int) == 10) = true := by rw [h10]; rfl
        rw [if_pos h10] at hn
        have e2 : IntKind.i64.wrap (((k + 1 : Nat) : Int) + 1) = ((k + 1 + 1 : Nat) : Int) := wrap_nat (by omega) (by omega)
        simp only [SL1, ← hk, hn]
        generalize hg : ((k + 1 : Nat) : Int) = kk at e2 ⊢
        generalize hg2 : ((k + 1 + 1 : Nat) : Int) = kk2 at e2 ⊢
        simp -implicitDefEqProofs [hj, ix, b10, e1, e2]
        refine sub_forget rfl rfl ?_ ?_ <;> simp -implicitDefEqProofs
      · have b10 : ((x.toNat : Int) == 10) = false := by rw [beq_eq_false_iff_ne]; omega
        rw [if_neg h10, Nat.add_zero] at hn
        simp only [SL1, ← hk, hn]
        generalize hg : ((k + 1 : Nat) : Int) = kk
        simp -implicitDefEqProofs [hj, ix, b10, e1]
        refine sub_forget rfl rfl ?_ ?_ <;> simp -implicitDefEqProofs
    · refine mc_runs ctxK7 ?_
      have et : s.data.toList.take s.size = s.data.toList := List.take_length
      simp only [SL1, et, ← hm]
      simp -implicitDefEqProofs
      exact Abs.Next.mk () trivial (sub_forget rfl rfl (by simp -implicitDefEqProofs [SL2]) (by simp -implicitDefEqProofs [SL2]))
  rintro _ _
  refine mc_cut (α := Unit) (fun _ => SL9) (fun _ => True) (fun _ => rfl) ?_ ?_
  · refine mc_seq_runs ctxK7 ?_
    simp -implicitDefEqProofs [SL2]
    refine mc_block ?_
    refine mc_for (SL3 m a b c) lc.length (fun _ => rfl) ?_ rfl ?_ ?_
    · refine sub_forget rfl rfl ?_ ?_ <;> simp -implicitDefEqProofs [SL3]
    · intro j hj
      refine mc_runs ctxK7 ?_
      obtain ⟨x, hx⟩ : ∃ x, lc[j]? = some x := ⟨_, List.getElem?_eq_getElem hj⟩
      have i3 : iaddrM 3 (.t c) (.t (iv (j : Int))) = some (.t (.pt (iv x.k :: sv (bs x.t) :: iv (x.l : Int) :: rest eTok lc j))) := ic.iaddr hx .i64
      have e1 : IntKind.i64.wrap ((j : Int) + 1) = ((j + 1 : Nat) : Int) := wrap_nat (by omega) (by omega)
      by_cases hlt : j < la.length
      · have hx1 : la[j]? = some x := by rw [hlc, List.getElem?_append_left hlt] at hx; exact hx
        have i1 : iaddrM 3 (.t a) (.t (iv (j : Int))) = some (.t (.pt (iv x.k :: sv (bs x.t) :: iv (x.l : Int) :: rest eTok la j))) := ia.iaddr hx1 .i64
        have eq := eqc_refl x.k (x.l : Int) (bs x.t)
        have g1 : ¬ (la.length : Int) ≤ (j : Int) := by omega
        simp -implicitDefEqProofs [SL3, l1, l3, hj, hlt, i1, i3, ag3, eq, g1, e1]
        refine sub_forget rfl rfl ?_ ?_ <;> simp -implicitDefEqProofs
      · obtain ⟨i, hi⟩ : ∃ i, i = j - la.length := ⟨_, rfl⟩
        obtain ⟨y, hy⟩ : ∃ y, lb[i]? = some y := ⟨_, List.getElem?_eq_getElem (by omega)⟩
        have hx2 : some x = some (⟨y.k, y.t, y.l + m⟩ : Tok) := by
          rw [← hx, hlc, List.getElem?_append_right (by omega), ← hi, hlb', List.getElem?_map, hy]; rfl
        injection hx2 with hx2
        subst hx2
        have i2 : iaddrM 3 (.t b) (.t (iv (i : Int))) = some (.t (.pt (iv y.k :: sv (bs y.t) :: iv (y.l : Int) :: rest eTok lb i))) := ib.iaddr hy .i64
        have w2 : IntKind.i64.wrap ((j : Int) - (la.length : Int)) = (i : Int) := by rw [wrap_i64 (by omega) (by omega)]; omega
        have hyl : (y.l : Int) + (m : Int) = ((y.l + m : Nat) : Int) := by omega
        have g1 : (la.length : Int) ≤ (j : Int) := by omega
        have w3 : IntKind.i64.wrap ((y.l : Int) + (m : Int)) = ((y.l + m : Nat) : Int) := by
          have hyb := scanS_lines hB _ (List.mem_of_getElem? hy)
          exact wrap_nat hyl (by omega)
        simp only at i3
        generalize hg : ((y.l + m : Nat) : Int) = yy at i3 w3 hyl
        simp -implicitDefEqProofs [SL3, l1, l3, hj, hlt, i2, i3, lp1, w2, w3, g1, e1]
        refine sub_forget rfl rfl ?_ ?_ <;> simp -implicitDefEqProofs
    · refine mc_runs ctxK7 ?_
      simp -implicitDefEqProofs [SL3, l3]
      exact Abs.Next.mk () trivial (sub_forget rfl rfl (by simp -implicitDefEqProofs [SL9]) (by simp -implicitDefEqProofs [SL9]))
  rintro _ _
  refine mc_runs ctxK7 ?_
  simp -implicitDefEqProofs [SL9, tbK7, ex]
end Go.Proofs.YtbabdjhikamkoaaDoor
