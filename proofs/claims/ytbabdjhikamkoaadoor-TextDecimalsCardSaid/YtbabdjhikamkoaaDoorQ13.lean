/-
  A source's tokens, in plain words. No statement of the program stands here.
  text.Scan: what it returns. No statement of the program stands here.
  The document's run, figures and quoted: what they return. No statement of the program stands here.
  The document's quoted and symbol: what they return. No statement of the program stands here.
  The document's token: what it returns. No statement of the program stands here.
  The document's token: the walk. No statement of the program stands here.
  The document's Scan: what it returns. No statement of the program stands here.
-/
import Derived.Test.YtbabdjhikamkoaaDoorQ12
namespace Go.Proofs.YtbabdjhikamkoaaDoor
set_option linter.unusedSimpArgs false
set_option linter.unusedVariables false
open Go Go.Abs

structure Tok where
  k : Int
  t : List UInt8
  l : Nat

def eTok : Enc Tok := ⟨3, fun t => [iv t.k, sv (bs t.t), iv (t.l : Int)], fun _ => rfl, by omega, fun a b h => by
  obtain ⟨k, t, l⟩ := a
  obtain ⟨k', t', l'⟩ := b
  injection h with h1 h2
  injection h2 with h2 h3
  injection h3 with h3
  injection h1 with h1; injection h1 with _ h1
  injection h2 with h2; injection h2 with h2
  injection h3 with h3; injection h3 with _ h3
  have h2' : t = t' := by
    have := congrArg (fun b : ByteArray => b.data.toList) h2
    simpa using this
  simp only at h1 h3
  have h3' : l = l' := by omega
  rw [h1, h2', h3']⟩

/-- The tokens from a place that is no white space, or the line and the error. -/
def scanG : Nat → List UInt8 → Nat → Except (Nat × Int) (List Tok)
  | 0, _, _ => .ok []
  | f + 1, D, l =>
    if D.isEmpty then .ok []
    else if (nextS D).e ≠ 0 then .error (l, (nextS D).e)
    else match scanG f ((D.drop (nextS D).n).drop (skipS false (D.drop (nextS D).n)).1) (l + (skipS false (D.drop (nextS D).n)).2) with
      | .error x => .error x
      | .ok ts => .ok (⟨(nextS D).k, (nextS D).t, l⟩ :: ts)
def scanS (D : List UInt8) (l : Nat) : Except (Nat × Int) (List Tok) := scanG (D.length + 1) (D.drop (skipS false D).1) (l + (skipS false D).2)

/-- Tokens ahead of a result. -/
def ahead (out : List Tok) : Except (Nat × Int) (List Tok) → Except (Nat × Int) (List Tok)
  | .error x => .error x
  | .ok ts => .ok (out ++ ts)
theorem ahead_nil (r : Except (Nat × Int) (List Tok)) : ahead [] r = r := by cases r <;> rfl

theorem skip_nl : ∀ (l : List UInt8) (cm : Bool), (skipS cm l).2 ≤ (skipS cm l).1
  | [], _ => by simp [skipS]
  | c :: r, cm => by
    have h1 := skip_nl r false
    have h2 := skip_nl r true
    rw [skipS]
    split
    · simp; omega
    · split
      · simp; omega
      · split
        · simp; omega
        · simp

theorem run_pos (big : Bool) (c : UInt8) (r : List UInt8) (h : isPart big c = true) : 1 ≤ runN big (c :: r) := by
  unfold runN
  rw [List.takeWhile_cons, if_pos h]
  simp

theorem next_pos (D : List UInt8) (h0 : D.isEmpty = false) (he : (nextS D).e = 0) : 1 ≤ (nextS D).n ∧ (nextS D).n ≤ D.length := by
  cases D with
  | nil => cases h0
  | cons c r =>
    rw [nextS] at he ⊢
    by_cases t1 : isLow c = true
    · rw [if_pos t1]
      exact ⟨run_pos false c r (by rw [isPart_eq]; simp [t1]), runN_le _ _⟩
    · rw [if_neg t1] at he ⊢
      by_cases t2 : isUp c = true
      · rw [if_pos t2]
        exact ⟨run_pos true c r (by rw [isPart_eq]; simp [t2]), runN_le _ _⟩
      · rw [if_neg t2] at he ⊢
        by_cases t3 : (isDig c || decide (c.toNat = 45)) = true
        · rw [if_pos t3]
          refine ⟨?_, figN_le _⟩
          show 1 ≤ figN (c :: r)
          unfold figN minN
          by_cases h45 : c = 45
          · subst h45; simp
          · have hd : isDig c = true := by
              rcases Bool.or_eq_true_iff.1 t3 with h | h
              · exact h
              · exact absurd (UInt8.toNat_inj.1 (by have := of_decide_eq_true h; show c.toNat = 45; omega)) h45
            have : ((c :: r).head? == some 45) = false := by simpa using h45
            rw [this]
            simp [List.takeWhile_cons, hd]
        · rw [if_neg t3] at he ⊢
          by_cases t4 : c.toNat = 34
          · rw [if_pos t4] at he ⊢
            obtain ⟨q1, q2, q3⟩ := quoN_le ((c :: r).drop 1)
            have he' : (quoN ((c :: r).drop 1)).2 = 0 := he
            have := q2 he'
            simp only [he', if_true]
            simp at this ⊢
            omega
          · rw [if_neg t4] at he ⊢
            have he' : (symS (c :: r)).2 = 0 := he
            show 1 ≤ (symS (c :: r)).1 ∧ (symS (c :: r)).1 ≤ (c :: r).length
            unfold symS at he' ⊢
            split
            · rename_i h
              refine ⟨by omega, ?_⟩
              rcases Bool.or_eq_true_iff.1 h with h | h
              · have := (List.isPrefixOf_iff_prefix.1 h).length_le; simpa using this
              · have := (List.isPrefixOf_iff_prefix.1 h).length_le; simpa using this
            · rename_i h
              rw [if_neg h] at he'
              split
              · simp
              · rename_i h2
                rw [if_neg h2] at he'
                cases he'
end Go.Proofs.YtbabdjhikamkoaaDoor

namespace Go.Proofs.YtbabdjhikamkoaaDoor
set_option linter.unusedSimpArgs false
set_option linter.unusedVariables false
open Go Go.Abs
variable {q : Gl}

def scanT (l : List UInt8) : T := if 65536 < l.length then .tu [nilS, iv 0, iv 7] else match scanS l 1 with
  | .error x => .tu [nilS, iv (x.1 : Int), iv x.2]
  | .ok ts => .tu [treeS eTok ts, iv 0, iv 0]

theorem toT_tu3 {α : Type} {e : Enc α} {ty : Nat} {H : Heap} {b : Nat} {l : List α} (h : RowAt e ty H b l) (y z : T) :
    toT H (oneOf [rowP e b l, .t y, .t z]) = some (.tu [treeS e l, y, z], lentS b l) := by
  have ht := h.toT
  cases l with
  | nil => rfl
  | cons x r =>
    show toT H (.tu [rowP e b (x :: r), .t y, .t z]) = _
    simp only [toT, toTs, ht, Option.map_some, List.append_nil]

structure Sc where
  f : Nat
  p : Nat
  ln : Nat
  out : List Tok

def SSc (s : ByteArray) (a : Sc) : AState := ⟨[(6, rowP eTok 1 a.out), (5, .ptr 0 0), (0, .t (sv s))], [(0, scr s a.p a.ln)] ++ rowH eTok 39 1 a.out, 2, 43⟩
structure OkSc (l : List UInt8) (R : Except (Nat × Int) (List Tok)) (a : Sc) : Prop where
  le : a.p ≤ l.length
  fu : l.length - a.p < a.f
  ln : a.ln ≤ a.p + 1
  ol : a.out.length ≤ a.p
  eq : ahead a.out (scanG a.f (l.drop a.p) a.ln) = R

theorem skip_low (s : ByteArray) (a l : Nat) (hs : s.size ≤ 65536) (ha : a ≤ s.size) (hl : l ≤ 1000000) {H : Heap} {nx : Nat} (h0 : Abs.look H 0 = some (scr s a l)) (hnx : 0 < nx) :
    HOK Tryd.prog (G q) 39 (hOne [.ptr 0 0] H nx (oneOf [], upd H 0 (scr s (a + (skipS false (s.data.toList.drop a)).1) (l + (skipS false (s.data.toList.drop a)).2)), nx)) := by
  refine hOne_ok ?_ ?_
  · exact CallP.lift1 (cs := scc s a l) (args := []) (cs' := scc s (a + (skipS false (s.data.toList.drop a)).1) (l + (skipS false (s.data.toList.drop a)).2)) (skip_call s a l hs ha hl) (b := 0) (NX := nx) (Hb := H) h0 hnx
  · intro hfr b x hb
    rw [look_upd] at hb
    split at hb
    · omega
    · exact hfr b x hb
theorem next_low (s : ByteArray) (a l : Nat) (hs : s.size ≤ 65536) (ha : a < s.size) {H : Heap} {nx : Nat} (h0 : Abs.look H 0 = some (scr s a l)) (hnx : 0 < nx) :
    HOK Tryd.prog (G q) 40 (hOne [.ptr 0 0] H nx (.t (tokT (nextS (s.data.toList.drop a)).k (nextS (s.data.toList.drop a)).t l (nextS (s.data.toList.drop a)).e), upd H 0 (scr s (a + (nextS (s.data.toList.drop a)).n) l), nx)) := by
  refine hOne_ok ?_ ?_
  · exact CallP.lift1 (cs := scc s a l) (args := []) (cs' := scc s (a + (nextS (s.data.toList.drop a)).n) l) (next_call s a l hs ha) (b := 0) (NX := nx) (Hb := H) h0 hnx
  · intro hfr b x hb
    rw [look_upd] at hb
    split at hb
    · omega
    · exact hfr b x hb

theorem st2 (k l : Int) (t : List UInt8) (x y z : PV) (R : Heap) : storeM 3 ((2, .cells 39 [x, y, z]) :: R) (.ptr 2 0) (.t (.ag (tkc k t l))) = some ((2, tkr k t l) :: R) := rfl
theorem ld2 (t : Row) (s : ByteArray) (a l : Nat) (R : Heap) : loadM false 1 ((2, t) :: (0, scr s a l) :: R) (.ptr 0 2) = some (.t (iv (l : Int))) := rfl
theorem ldt (k l : Int) (t : List UInt8) (R : Heap) : loadM true 3 ((2, tkr k t l) :: R) (.ptr 2 0) = some (.t (.ag (tkc k t l))) := rfl
theorem bst (k l : Int) (t : List UInt8) : bsliceM 39 3 [.int .i64 0, .string ⟨#[]⟩, .int .i64 0] 1 [(0, .t (.ag (tkc k t l)))] 3 = some (.row 3 0 1 3, .cells 39 [.t (iv k), .t (sv (bs t)), .t (iv l)]) := rfl

theorem bldSc {Φ : Oracle} {H : Heap} {nx : Nat} (s : ByteArray) (l : Int) : evalK Φ H nx (.build [(0, 1), (1, 1), (2, 1)] [.string ⟨#[]⟩, .int .i64 0, .int .i64 0] [0, 2]) [.t (sv s), .t (iv l)] = some (.t (.ag [sv s, iv 0, iv l]), H, nx) := rfl

set_option maxHeartbeats 2000000 in
theorem scan_call (s : ByteArray) (hlim : s.size ≤ lim) : CallT Tryd.prog (G q) 24 [sv s] (· = scanT s.data.toList) := by
  refine k_text_Scan.call rfl ?_
  unfold M_text_Scan
  obtain ⟨l, hl⟩ : ∃ l, l = s.data.toList := ⟨_, rfl⟩
  have hlen : l.length = s.size := by rw [hl]; rfl
  rw [← hl]
  by_cases hbig : 65536 < s.size
  · have hb' : (65536 : Int) < (s.size : Int) := by omega
    have hT : scanT l = .tu [nilS, iv 0, iv 7] := by rw [scanT, if_pos (by omega)]
    refine mc_runs ctx0 ?_
    simp -implicitDefEqProofs [hb', hT]
  have hb' : ¬ (65536 : Int) < (s.size : Int) := by omega
  have hs : s.size ≤ 65536 := by omega
  have hT : scanT l = match scanS l 1 with
    | .error x => .tu [nilS, iv (x.1 : Int), iv x.2]
    | .ok ts => .tu [treeS eTok ts, iv 0, iv 0] := by rw [scanT, if_neg (by omega)]
  obtain ⟨R, hR⟩ : ∃ R, R = scanS l 1 := ⟨_, rfl⟩
  rw [← hR] at hT
  refine mc_seq_runs ctx0 ?_
  simp -implicitDefEqProofs
  refine mc_seq_runs ctx0 ?_
  simp -implicitDefEqProofs [hb']
  refine mc_seq_runs ctx0 ?_
  have bx : cellsP (.t (.ag [sv s, iv 0, iv 1])) = some [.t (sv s), .t (iv 0), .t (iv 1)] := rfl
  simp -implicitDefEqProofs [-evalK_build, bldSc, bx]
  refine mc_seq_runs ctx0 ?_
  simp -implicitDefEqProofs
  have hk0 := skip_low (q := q) s 0 1 hs (by omega) (by omega) (H := [(0, scr s 0 1)]) (nx := 1) rfl (by omega)
  have hsl := skip_le l false
  have hsn := skip_nl l false
  rw [← hl, List.drop_zero] at hk0
  obtain ⟨p0, hp0⟩ : ∃ p0, p0 = 0 + (skipS false l).1 := ⟨_, rfl⟩
  obtain ⟨l0, hl0⟩ : ∃ l0, l0 = 1 + (skipS false l).2 := ⟨_, rfl⟩
  rw [← hp0, ← hl0] at hk0
  have ctxa := TblOK.nil.ctxH (.cons hk0 .nil) mixed
  have h1 := fun ps H nx o => hOne_eq ps H nx o
  refine mc_cut (α := Sc) (SSc s) (fun a => OkSc l R a ∧ a.p = s.size) (fun _ => rfl) ?_ ?_
  · refine mc_seq_runs ctxa ?_
    have ho : ∀ o, hOne [.ptr 0 0] [(0, scr s 0 1)] 1 o [.ptr 0 0] [(0, Row.cells 55 [.t (sv s), .t (iv 0), .t (iv 1)])] 1 = some o := fun o => hOne_eq _ _ _ _
    simp -implicitDefEqProofs [ho, upd]
    refine mc_block ?_
    refine mc_while (SSc s) (fun a => a.f) (OkSc l R) ⟨l.length + 1, p0, l0, []⟩ (fun _ => rfl) ⟨by show p0 ≤ _; omega, by show l.length - p0 < l.length + 1; omega, by show l0 ≤ p0 + 1; omega, by simp, ?_⟩ ?_ rfl ?_
    · show ahead [] (scanG (l.length + 1) (l.drop p0) l0) = R
      rw [ahead_nil, hR, scanS, hp0, hl0, Nat.zero_add]
    · exact sub_rowR (k := 5) (RowAt.nil eTok 39 _ _) (by omega) (by omega) (by simp -implicitDefEqProofs [renRow, renL, ren, underRow, underL, under]) (by simp -implicitDefEqProofs [rowP, ren, under])
    · rintro ⟨f, p, ln, out⟩ hok
      have hok' := hok
      obtain ⟨hp, hfu, hln, hol, heq⟩ := hok
      simp only at hp hfu hln hol heq
      have r0 : RowAt eTok 39 ([(0, scr s p ln)] ++ rowH eTok 39 1 out) 1 out := (RowAt.head' eTok 39 1 out).cons (by omega)
      by_cases hlt : p < s.size
      · have hn := next_low (q := q) s p ln hs hlt (H := [(0, scr s p ln)] ++ rowH eTok 39 1 out) (nx := 2) rfl (by omega)
        obtain ⟨D, hD⟩ : ∃ D, D = l.drop p := ⟨_, rfl⟩
        have hDl : D.length = l.length - p := by rw [hD, List.length_drop]
        have hDe : D.isEmpty = false := by
          cases D with
          | nil => simp at hDl; omega
          | cons _ _ => rfl
        rw [← hl, ← hD] at hn
        rw [← hD] at heq
        obtain ⟨f', rfl⟩ : ∃ f', f = f' + 1 := ⟨f - 1, by omega⟩
        rw [scanG, hDe] at heq
        simp only [Bool.false_eq_true, if_false] at heq
        obtain ⟨k, hk⟩ : ∃ k, k = (nextS D).k := ⟨_, rfl⟩
        obtain ⟨t, ht⟩ : ∃ t, t = (nextS D).t := ⟨_, rfl⟩
        obtain ⟨e, he⟩ : ∃ e, e = (nextS D).e := ⟨_, rfl⟩
        obtain ⟨n, hnn⟩ : ∃ n, n = (nextS D).n := ⟨_, rfl⟩
        have hpos := next_pos D hDe
        rw [← hk, ← ht, ← he, ← hnn] at hn
        rw [← he, ← hnn] at hpos
        rw [← hk, ← ht, ← he, ← hnn] at heq
        obtain ⟨p1, hp1⟩ : ∃ p1, p1 = p + n := ⟨_, rfl⟩
        rw [← hp1] at hn
        have hu0 : upd ([(0, scr s p ln)] ++ rowH eTok 39 1 out) 0 (scr s p1 ln) = [(0, scr s p1 ln)] ++ rowH eTok 39 1 out := by
          simp [upd]
        rw [hu0] at hn
        by_cases he0 : e = 0
        · obtain ⟨hn1, hn2⟩ := hpos he0
          rw [if_neg (by simpa using he0)] at heq
          have hdd : D.drop n = l.drop p1 := by rw [hD, List.drop_drop, hp1]
          rw [hdd] at heq
          have hsl1 := skip_le (l.drop p1) false
          have hsn1 := skip_nl (l.drop p1) false
          rw [List.length_drop] at hsl1
          obtain ⟨p2, hp2⟩ : ∃ p2, p2 = p1 + (skipS false (l.drop p1)).1 := ⟨_, rfl⟩
          obtain ⟨ln2, hln2⟩ : ∃ x, x = ln + (skipS false (l.drop p1)).2 := ⟨_, rfl⟩
          have hdd2 : (l.drop p1).drop (skipS false (l.drop p1)).1 = l.drop p2 := by rw [List.drop_drop, hp2]
          rw [hdd2, ← hln2] at heq
          have htok : tokT k t ln e = .tu [.ag (tkc k t ln), iv e] := by rw [tokT, if_pos he0, he0]
          have hb : (e != 0) = false := by rw [he0]; rfl
          have r0' : RowAt eTok 39 ((3, .cells 39 [.t (iv k), .t (sv (bs t)), .t (iv (ln : Int))]) :: (2, tkr k t ln) :: ([(0, scr s p1 ln)] ++ rowH eTok 39 1 out)) 1 out :=
            (((RowAt.head' eTok 39 1 out).cons (k := 0) (by omega)).cons (k := 2) (by omega)).cons (k := 3) (by omega)
          obtain ⟨b2, H2, n2, ap2, r2, ne2, hle2, hold, hb2⟩ := app_some (e := eTok) (ty := 39) (by' := 32) (nx := 4) (m := [⟨k, t, ln⟩]) r0' (src_one (e := eTok) (b := 3) (ty := 39) ⟨k, t, ln⟩ rfl) (by simp; omega) (by simp; omega)
          have ap2' : appM 39 3 32 ((3, .cells 39 [.t (iv k), .t (sv (bs t)), .t (iv (ln : Int))]) :: (2, tkr k t ln) :: (0, scr s p1 ln) :: rowH eTok 39 1 out) 4 (rowP eTok 1 out) (.row 3 0 1 3) = some (rowP eTok b2 (out ++ [⟨k, t, ln⟩]), H2, n2) := ap2
          have hl0' : Abs.look H2 0 = some (scr s p1 ln) := (hold 0 (by omega) (by omega)).trans rfl
          have hsk := skip_low (q := q) s p1 ln hs (by omega) (by omega) (H := H2) (nx := n2) hl0' (by omega)
          rw [← hl, ← hp2, ← hln2] at hsk
          have ctxb := TblOK.nil.ctxH (.cons hn (.cons hsk .nil)) mixed
          refine mc_runs ctxb ?_
          simp -implicitDefEqProofs [SSc, sl1, hlt, h1, htok, extractV, hb, st2, ldt, bst, ap2']
          refine Abs.Next.mk ⟨f', p2, ln2, out ++ [⟨k, t, ln⟩]⟩ ⟨⟨by show p2 ≤ _; omega, by show l.length - p2 < f'; omega, by show ln2 ≤ p2 + 1; omega, by simp; omega, ?_⟩, by show f' < f' + 1; omega⟩ ?_
          · show ahead (out ++ [⟨k, t, ln⟩]) (scanG f' (l.drop p2) ln2) = R
            rw [← heq]
            cases scanG f' (l.drop p2) ln2 with
            | error x => rfl
            | ok ts => show Except.ok _ = Except.ok _; simp
          · have r2' : RowAt eTok 39 (upd H2 0 (scr s p2 ln2)) b2 (out ++ [⟨k, t, ln⟩]) := r2.imp id fun h => by rw [look_upd, if_neg (by omega)]; exact h
            have h02 : Abs.look (upd H2 0 (scr s p2 ln2)) 0 = some (scr s p2 ln2) := by rw [look_upd, if_pos rfl, hl0']; rfl
            exact sub_rowR (k := b2) r2' (by omega) (by omega) (by simp -implicitDefEqProofs [renRow, renL, ren, underRow, underL, under, h02]; omega) (by simp -implicitDefEqProofs [ren_rowP, under_rowP, ren, under])
        · have hRe : R = .error (ln, e) := by
            rw [← heq, if_pos he0]; rfl
          rw [hRe] at hT
          simp only at hT
          have ctxb := TblOK.nil.ctxH (.cons hn .nil) mixed
          refine mc_runs ctxb ?_
          have hb : (e != 0) = true := by rw [bne_iff_ne]; exact he0
          have htok : tokT k t ln e = .tu [.ag (tkc 0 [] 0), iv e] := by rw [tokT, if_neg he0]
          simp -implicitDefEqProofs [SSc, sl1, hlt, h1, htok, extractV, hb, hT, st2, ld2]
      · have hps : p = s.size := by omega
        subst hps
        refine mc_runs ctx0 ?_
        simp -implicitDefEqProofs [SSc, sl1]
        refine Abs.Next.mk ⟨f, s.size, ln, out⟩ ⟨hok', rfl⟩ ?_
        exact sub_rowR (k := 1) r0 (by omega) (by omega) (by simp -implicitDefEqProofs [renRow, renL, ren, underRow, underL, under]) (by simp -implicitDefEqProofs [ren_rowP, under_rowP, ren, under])
  rintro ⟨f, p, ln, out⟩ ⟨hok, hps⟩
  obtain ⟨hp, hfu, hln, hol, heq⟩ := hok
  simp only at hp hfu hln hol heq hps
  subst hps
  have r0 : RowAt eTok 39 ([(0, scr s s.size ln)] ++ rowH eTok 39 1 out) 1 out := (RowAt.head' eTok 39 1 out).cons (by omega)
  have hd0 : l.drop s.size = [] := List.drop_eq_nil_of_le (by omega)
  have hRo : R = .ok out := by
    rw [← heq, hd0]
    cases f with
    | zero => show Except.ok (out ++ []) = _; rw [List.append_nil]
    | succ f => rw [scanG]; show Except.ok (out ++ []) = _; rw [List.append_nil]
  rw [hRo] at hT
  simp only at hT
  have ht := toT_tu3 r0 (iv 0) (iv 0)
  refine mc_runs ctx0 ?_
  have ht' : toT ((0, scr s s.size ln) :: rowH eTok 39 1 out) (oneOf [rowP eTok 1 out, .t (iv 0), .t (iv 0)]) = some (.tu [treeS eTok out, iv 0, iv 0], lentS 1 out) := ht
  simp -implicitDefEqProofs [SSc, hT, -oneOf, ht']
end Go.Proofs.YtbabdjhikamkoaaDoor

namespace Go.Proofs.YtbabdjhikamkoaaDoor
set_option linter.unusedSimpArgs false
set_option linter.unusedVariables false
open Go Go.Abs
variable {q : Gl}

def InZ (n p : Nat) : Prop := p ≤ n
def SRr (s : ByteArray) (big : Bool) (p : Nat) : AState := ⟨[(5, .t (iv (p : Int))), (1, .t (bv big)), (0, .t (sv s))], [], 0, 20⟩

theorem rrun_call (s : ByteArray) (big : Bool) (hs : s.size ≤ 65536) : CallT Tryd.prog (G q) 61 [sv s, bv big] (· = iv (runN big s.data.toList : Int)) := by
  have hlen : s.data.toList.length = s.size := rfl
  obtain ⟨n, hn⟩ : ∃ n, n = runN big s.data.toList := ⟨_, rfl⟩
  have hnl : n ≤ s.size := by rw [hn, ← hlen]; exact runN_le _ _
  rw [← hn]
  refine k_r01_run.call rfl ?_
  unfold M_r01_run
  refine mc_seq_runs ctxp ?_
  simp -implicitDefEqProofs
  refine mc_seq_runs ctxp ?_
  simp -implicitDefEqProofs
  refine mc_cut (α := Unit) (fun _ => SRr s big n) (fun _ => True) (fun _ => rfl) ?_ ?_
  · refine mc_block ?_
    refine mc_while (SRr s big) (fun p => n - p) (InZ n) 0 (fun _ => rfl) (Nat.zero_le _) ?_ rfl ?_
    · refine sub_forget rfl rfl ?_ ?_ <;> simp -implicitDefEqProofs [SRr]
    · intro p hp
      have hp : p ≤ n := hp
      refine mc_runs ctxp ?_
      by_cases hlt : p < s.size
      · obtain ⟨c, hc⟩ : ∃ c, s.data.toList[p]? = some c := ⟨_, List.getElem?_eq_getElem hlt⟩
        have ix := index_str s p c hc
        obtain ⟨p1, hp1⟩ : ∃ p1, p1 = p + 1 := ⟨_, rfl⟩
        have e1 : IntKind.i64.wrap ((p : Int) + 1) = (p1 : Int) := by rw [hp1]; exact wrap_nat (by omega) (by omega)
        have gq := g2_eq (τ := tChr) (σ := tBool) (f := fun c b => some (bv (isPart b c))) (a := cv c) (b := bv big) rfl rfl
        by_cases hpn : p < n
        · have hd : isPart big c = true := tw_lt (by show p < runN big s.data.toList; omega) hc
          simp -implicitDefEqProofs [SRr, hlt, ix, tbp, gq, hd, e1]
          exact Abs.Next.mk p1 ⟨by show p1 ≤ n; omega, by omega⟩ (sub_forget rfl rfl (by simp -implicitDefEqProofs [SRr]) (by simp -implicitDefEqProofs [SRr]))
        · have hpz : p = n := by omega
          have hd : isPart big c = false := tw_eq (by show s.data.toList[runN big s.data.toList]? = some c; rw [← hn, ← hpz]; exact hc)
          subst hpz
          simp -implicitDefEqProofs [SRr, hlt, ix, tbp, gq, hd]
          exact Abs.Next.mk () trivial (sub_forget rfl rfl (by simp -implicitDefEqProofs [SRr]) (by simp -implicitDefEqProofs [SRr]))
      · have hpz : p = n := by omega
        subst hpz
        simp -implicitDefEqProofs [SRr, hlt]
        exact Abs.Next.mk () trivial (sub_forget rfl rfl (by simp -implicitDefEqProofs [SRr]) (by simp -implicitDefEqProofs [SRr]))
  rintro _ -
  refine mc_runs ctxp ?_
  simp -implicitDefEqProofs [SRr]

def SRf (s : ByteArray) (k p : Nat) : AState := ⟨[(4, .t (iv (p : Int))), (3, .t (iv (k : Int))), (0, .t (sv s))], [], 0, 25⟩
def figR (l : List UInt8) : Nat := if figN l = minN l then 0 else figN l

theorem rfig_call (s : ByteArray) (hs : s.size ≤ 65536) (h0 : 0 < s.size) : CallT Tryd.prog (G q) 62 [sv s] (· = iv (figR s.data.toList : Int)) := by
  have hlen : s.data.toList.length = s.size := rfl
  obtain ⟨l, hl⟩ : ∃ l, l = s.data.toList := ⟨_, rfl⟩
  rw [← hl] at hlen ⊢
  obtain ⟨c0, hc0⟩ : ∃ c, l[0]? = some c := ⟨_, List.getElem?_eq_getElem (by omega)⟩
  have ix0 := index_str s 0 c0 (by rw [← hl]; exact hc0)
  simp only [Int.natCast_zero] at ix0
  obtain ⟨n, hn⟩ : ∃ n, n = figN l := ⟨_, rfl⟩
  obtain ⟨k, hk⟩ : ∃ k, k = minN l := ⟨_, rfl⟩
  have hnl : n ≤ s.size := by rw [hn, ← hlen]; exact figN_le _
  have hkn : k ≤ n := by rw [hn, hk]; unfold figN; omega
  have hr : figR l = if n = k then 0 else n := by rw [figR, hn, hk]
  have e45 : ((c0.toNat : Int) == 45) = (c0 == 45) := by
    by_cases h : c0 = 45
    · subst h; rfl
    · have : ¬ c0.toNat = 45 := fun e => h (UInt8.toNat_inj.1 e)
      rw [beq_eq_false_iff_ne.2 h, beq_eq_false_iff_ne]; omega
  have hk' : k = if c0 == 45 then 1 else 0 := by
    rw [hk]; unfold minN
    cases l with
    | nil => cases hc0
    | cons x t =>
      have : x = c0 := by simpa using hc0
      rw [this]
      cases h : (c0 == 45) <;> simp [h]
  refine k_r01_figures.call rfl ?_
  unfold M_r01_figures
  refine mc_seq_runs ctxc ?_
  simp -implicitDefEqProofs
  refine mc_seq_runs ctxc ?_
  simp -implicitDefEqProofs
  refine mc_cut (α := Unit) (fun _ => (⟨[(3, .t (iv (k : Int))), (0, .t (sv s))], [], 0, 25⟩ : AState)) (fun _ => True) (fun _ => rfl) ?_ ?_
  · refine mc_runs ctxc ?_
    cases h45 : (c0 == 45) with
    | true =>
      rw [h45] at hk'
      have hk1 : k = 1 := hk'
      subst hk1
      simp -implicitDefEqProofs [ix0, e45, h45]
      exact Abs.Next.mk () trivial (sub_forget rfl rfl (by simp -implicitDefEqProofs) (by simp -implicitDefEqProofs))
    | false =>
      rw [h45] at hk'
      have hk1 : k = 0 := hk'
      subst hk1
      simp -implicitDefEqProofs [ix0, e45, h45]
      exact Abs.Next.mk () trivial (sub_forget rfl rfl (by simp -implicitDefEqProofs) (by simp -implicitDefEqProofs))
  rintro _ -
  refine mc_seq_runs ctxc ?_
  simp -implicitDefEqProofs
  refine mc_cut (α := Unit) (fun _ => SRf s k n) (fun _ => True) (fun _ => rfl) ?_ ?_
  · refine mc_block ?_
    refine mc_while (SRf s k) (fun p => n - p) (InR k (n - k)) k (fun _ => rfl) ⟨Nat.le_refl _, by omega⟩ ?_ rfl ?_
    · refine sub_forget rfl rfl ?_ ?_ <;> simp -implicitDefEqProofs [SRf]
    · rintro p ⟨hp1, hp2⟩
      refine mc_runs ctxc ?_
      by_cases hlt : p < s.size
      · obtain ⟨c, hc⟩ : ∃ c, l[p]? = some c := ⟨_, List.getElem?_eq_getElem (by omega)⟩
        have ix := index_str s p c (by rw [← hl]; exact hc)
        obtain ⟨p1, hp1'⟩ : ∃ p1, p1 = p + 1 := ⟨_, rfl⟩
        have e1 : IntKind.i64.wrap ((p : Int) + 1) = (p1 : Int) := by rw [hp1']; exact wrap_nat (by omega) (by omega)
        have hc' : (l.drop k)[p - k]? = some c := by rw [List.getElem?_drop, show k + (p - k) = p by omega]; exact hc
        have hnk : n - k = ((l.drop k).takeWhile isDig).length := by rw [hn, hk]; unfold figN; omega
        have qd := gChr_eq isDig c
        by_cases hpn : p < n
        · have hd : isDig c = true := tw_lt (by rw [← hnk]; omega) hc'
          rw [hd] at qd
          simp -implicitDefEqProofs [SRf, hlt, ix, tbc, qd, e1]
          exact Abs.Next.mk p1 ⟨⟨by omega, by omega⟩, by omega⟩ (sub_forget rfl rfl (by simp -implicitDefEqProofs [SRf]) (by simp -implicitDefEqProofs [SRf]))
        · have hpz : p = n := by omega
          have hd : isDig c = false := tw_eq (by rw [← hnk, show n - k = p - k by omega]; exact hc')
          rw [hd] at qd
          subst hpz
          simp -implicitDefEqProofs [SRf, hlt, ix, tbc, qd]
          exact Abs.Next.mk () trivial (sub_forget rfl rfl (by simp -implicitDefEqProofs [SRf]) (by simp -implicitDefEqProofs [SRf]))
      · have hpz : p = n := by omega
        subst hpz
        simp -implicitDefEqProofs [SRf, hlt]
        exact Abs.Next.mk () trivial (sub_forget rfl rfl (by simp -implicitDefEqProofs [SRf]) (by simp -implicitDefEqProofs [SRf]))
  rintro _ -
  refine mc_runs ctxc ?_
  by_cases hnk : n = k
  · have hb : ((n : Int) == (k : Int)) = true := by rw [hnk]; simp
    rw [if_pos hnk] at hr
    simp -implicitDefEqProofs [SRf, hb, hr]
  · have hb : ((n : Int) == (k : Int)) = false := by rw [beq_eq_false_iff_ne]; omega
    rw [if_neg hnk] at hr
    simp -implicitDefEqProofs [SRf, hb, hr]
end Go.Proofs.YtbabdjhikamkoaaDoor

namespace Go.Proofs.YtbabdjhikamkoaaDoor
set_option linter.unusedSimpArgs false
set_option linter.unusedVariables false
open Go Go.Abs
variable {q : Gl}

def quoT (l : List UInt8) : T := if (quoN (l.drop 1)).2 = 0 then .tu [iv ((quoN (l.drop 1)).1 + 2 : Nat), iv 0] else .tu [iv 0, iv (quoN (l.drop 1)).2]
def SRq (s : ByteArray) (p : Nat) : AState := ⟨[(4, .t (iv (p : Int))), (0, .t (sv s))], [], 0, 27⟩

theorem rquo_call (s : ByteArray) (hs : s.size ≤ 65536) (h0 : 0 < s.size) : CallT Tryd.prog (G q) 63 [sv s] (· = quoT s.data.toList) := by
  have hlen : s.data.toList.length = s.size := rfl
  obtain ⟨l, hl⟩ : ∃ l, l = s.data.toList := ⟨_, rfl⟩
  rw [← hl] at hlen ⊢
  obtain ⟨hq1, hq2, hq3⟩ := quoN_le (l.drop 1)
  rw [List.length_drop] at hq1 hq2
  have hT : quoT l = if (quoN (l.drop 1)).2 = 0 then .tu [iv ((quoN (l.drop 1)).1 + 2 : Nat), iv 0] else .tu [iv 0, iv (quoN (l.drop 1)).2] := rfl
  obtain ⟨n, hn⟩ : ∃ n, n = (quoN (l.drop 1)).1 := ⟨_, rfl⟩
  obtain ⟨e, he⟩ : ∃ e, e = (quoN (l.drop 1)).2 := ⟨_, rfl⟩
  rw [← hn, ← he] at hT
  rw [← hn, ← he] at hq2
  rw [← hn] at hq1
  refine k_r01_quoted.call rfl ?_
  unfold M_r01_quoted
  refine mc_seq_runs ctx0 ?_
  simp -implicitDefEqProofs
  refine mc_cut (α := Unit) (fun _ => SRq s s.size) (fun _ => e = 9) (fun _ => rfl) ?_ ?_
  · refine mc_seq_runs ctx0 ?_
    simp -implicitDefEqProofs
    refine mc_block ?_
    refine mc_while (SRq s) (fun p => s.size - p) (OkQ l (1 + n) e 1) 1 (fun _ => rfl) ⟨Nat.le_refl _, by omega, by rw [← hn], by rw [← he]⟩ ?_ rfl ?_
    · refine sub_forget rfl rfl ?_ ?_ <;> simp -implicitDefEqProofs [SRq]
    · rintro p ⟨hp0, hp, hp1, hp2⟩
      refine mc_runs ctx0 ?_
      by_cases hlt : p < s.size
      · obtain ⟨c, hc⟩ : ∃ c, l[p]? = some c := ⟨_, List.getElem?_eq_getElem (by omega)⟩
        have ix := index_str s p c (by rw [← hl]; exact hc)
        have hdrop : l.drop p = c :: l.drop (p + 1) := by
          have := List.drop_eq_getElem_cons (l := l) (i := p) (by omega)
          rw [this, (List.getElem?_eq_some_iff.1 hc).2]
        rw [hdrop, quoN] at hp1 hp2
        obtain ⟨p1, hp1'⟩ : ∃ p1, p1 = p + 1 := ⟨_, rfl⟩
        rw [← hp1'] at hp1 hp2
        have e1 : IntKind.i64.wrap ((p : Int) + 1) = (p1 : Int) := by rw [hp1']; exact wrap_nat (by omega) (by omega)
        have b34 : ((c.toNat : Int) == 34) = decide (c.toNat = 34) := by
          by_cases h : c.toNat = 34
          · rw [h]; rfl
          · rw [decide_eq_false h, beq_eq_false_iff_ne]; omega
        by_cases h34 : c.toNat = 34
        · rw [if_pos h34] at hp1 hp2
          rw [decide_eq_true h34] at b34
          have hpz : p = 1 + n := by simpa using hp1
          have he0 : e = 0 := by simpa using hp2.symm
          rw [if_pos he0, show n + 2 = p1 by omega] at hT
          simp -implicitDefEqProofs [SRq, hlt, ix, b34, e1, hT]
        · rw [if_neg h34] at hp1 hp2
          rw [decide_eq_false h34] at b34
          have hk := prt_int c
          have bad : prt c = false → quoT l = .tu [iv 0, iv 8] := by
            intro h
            rw [h] at hp1 hp2
            simp at hp1 hp2
            rw [hT, if_neg (by omega), ← hp2]
          cases t1 : decide ((c.toNat : Int) < 32) with
          | true => rw [t1] at hk; simp -implicitDefEqProofs [SRq, hlt, ix, b34, t1, bad hk]
          | false =>
            cases t2 : decide (126 < (c.toNat : Int)) with
            | true => rw [t1, t2] at hk; simp -implicitDefEqProofs [SRq, hlt, ix, b34, t1, t2, bad hk]
            | false =>
              rw [t1, t2] at hk
              rw [hk] at hp1 hp2
              simp only [Bool.or_self, Bool.not_false, if_true] at hp1 hp2
              simp -implicitDefEqProofs [SRq, hlt, ix, b34, t1, t2, e1]
              exact Abs.Next.mk p1 ⟨⟨by omega, by omega, by omega, hp2⟩, by omega⟩ (sub_forget rfl rfl (by simp -implicitDefEqProofs [SRq]) (by simp -implicitDefEqProofs [SRq]))
      · have hd0 : l.drop p = [] := List.drop_eq_nil_of_le (by omega)
        rw [hd0, quoN] at hp1 hp2
        have h2 : e = 9 := by simpa using hp2.symm
        have hps : p = s.size := by omega
        subst hps
        simp -implicitDefEqProofs [SRq]
        exact Abs.Next.mk () h2 (sub_forget rfl rfl (by simp -implicitDefEqProofs [SRq]) (by simp -implicitDefEqProofs [SRq]))
  rintro _ h9
  have hT9 : quoT l = .tu [iv 0, iv 9] := by rw [hT, h9, if_neg (by omega)]
  refine mc_runs ctx0 ?_
  simp -implicitDefEqProofs [SRq, hT9]

theorem pre2 (l : List UInt8) (x y : UInt8) : Lib.hasPrefix l [x, y] = (decide (1 < l.length) && (l.take 2 == [x, y])) := by
  cases l with
  | nil => rfl
  | cons a l =>
    cases l with
    | nil => simp [Lib.hasPrefix, List.isPrefixOf]
    | cons b l =>
      have : decide (1 < (a :: b :: l).length) = true := by simp
      rw [this, Bool.true_and]
      show (x == a && (y == b && true)) = (a == x && (b == y && true))
      have cm : ∀ u v : UInt8, (u == v) = (v == u) := by
        intro u v
        by_cases h : u = v
        · subst h; rfl
        · rw [beq_eq_false_iff_ne.2 h, beq_eq_false_iff_ne.2 (Ne.symm h)]
      rw [cm x a, cm y b]

def SymOk (c : UInt8) (l : List UInt8) : Prop := symS l = if symC.contains c then (1, 0) else (0, 8)

set_option maxHeartbeats 4000000 in
theorem rsym_call (s : ByteArray) (hs : s.size ≤ 65536) (h0 : 0 < s.size) : CallT Tryd.prog (G q) 64 [sv s] (· = iv ((symS s.data.toList).1 : Int)) := by
  have hlen : s.data.toList.length = s.size := rfl
  obtain ⟨l, hl⟩ : ∃ l, l = s.data.toList := ⟨_, rfl⟩
  rw [← hl] at hlen ⊢
  obtain ⟨c, hc⟩ : ∃ c, l[0]? = some c := ⟨_, List.getElem?_eq_getElem (by omega)⟩
  have ix := index_str s 0 c (by rw [← hl]; exact hc)
  simp only [Int.natCast_zero] at ix
  have hh : l.head? = some c := by rw [List.head?_eq_getElem?]; exact hc
  have p1 := pre2 l 60 33
  have p2 := pre2 l 33 62
  have hS : symS l = if Lib.hasPrefix l [60, 33] || Lib.hasPrefix l [33, 62] then (2, 0) else if symC.contains c then (1, 0) else (0, 8) := by
    unfold symS; rw [hh]; rfl
  rw [p1, p2] at hS
  refine k_r01_symbol.call rfl ?_
  unfold M_r01_symbol
  refine mc_seq_runs ctx0 ?_
  simp -implicitDefEqProofs
  -- the test on two bytes
  refine mc_cut (α := Unit) (fun _ => (⟨[(0, .t (sv s))], [], 0, 37⟩ : AState)) (fun _ => SymOk c l) (fun _ => rfl) ?_ ?_
  · refine mc_runs ctx0 ?_
    by_cases h1 : 1 < s.size
    · have h1' : (1 : Int) < (s.size : Int) := by omega
      rw [decide_eq_true (by omega : 1 < l.length)] at hS
      have hsl := slstr_to s 2 (by omega)
      have hx : (s.extract 0 2).toList = l.take 2 := by rw [stl, Lib.extract_data, ← hl]; rfl
      have hsl' : slstrM (.t (sv s)) none (some (.t (.v (.int .i64 2)))) = some (.t (sv (s.extract 0 2))) := hsl
      cases b1 : (l.take 2 == [60, 33]) with
      | true =>
        rw [b1] at hS
        have hS2 : symS l = (2, 0) := by rw [hS]; rfl
        simp -implicitDefEqProofs [h1', hsl', hx, stl_mk, b1, hS2]
      | false =>
        cases b2 : (l.take 2 == [33, 62]) with
        | true =>
          rw [b1, b2] at hS
          have hS2 : symS l = (2, 0) := by rw [hS]; rfl
          simp -implicitDefEqProofs [h1', hsl', hx, stl_mk, b1, b2, hS2]
        | false =>
          rw [b1, b2] at hS
          simp -implicitDefEqProofs [h1', hsl', hx, stl_mk, b1, b2]
          exact Abs.Next.mk () (by show symS l = _; rw [hS]; rfl) (sub_forget rfl rfl (by simp -implicitDefEqProofs) (by simp -implicitDefEqProofs))
    · have h1' : ¬ (1 : Int) < (s.size : Int) := by omega
      rw [decide_eq_false (by omega : ¬ 1 < l.length)] at hS
      simp -implicitDefEqProofs [h1']
      exact Abs.Next.mk () (by show symS l = _; rw [hS]; rfl) (sub_forget rfl rfl (by simp -implicitDefEqProofs) (by simp -implicitDefEqProofs))
  rintro _ hok
  have hok : symS l = if symC.contains c then (1, 0) else (0, 8) := hok
  have yes : ∀ n : Nat, symC.contains (UInt8.ofNat n) = true → c.toNat = n → (symS l).1 = 1 := by
    intro n h e
    have : c = UInt8.ofNat n := by rw [← e]; simp
    rw [hok, this, h]; rfl
  refine mc_runs ctx0 ?_
  by_cases h40 : c.toNat = 40
  · have b : ((c.toNat : Int) == 40) = true := by rw [h40]; rfl
    have hy : (symS l).1 = 1 := yes 40 (by decide) h40
    simp -implicitDefEqProofs [ix, b, hy]
  have f40 : ((c.toNat : Int) == 40) = false := by rw [beq_eq_false_iff_ne]; omega
  by_cases h41 : c.toNat = 41
  · have b : ((c.toNat : Int) == 41) = true := by rw [h41]; rfl
    have hy : (symS l).1 = 1 := yes 41 (by decide) h41
    simp -implicitDefEqProofs [ix, f40, b, hy]
  have f41 : ((c.toNat : Int) == 41) = false := by rw [beq_eq_false_iff_ne]; omega
  by_cases h91 : c.toNat = 91
  · have b : ((c.toNat : Int) == 91) = true := by rw [h91]; rfl
    have hy : (symS l).1 = 1 := yes 91 (by decide) h91
    simp -implicitDefEqProofs [ix, f40, f41, b, hy]
  have f91 : ((c.toNat : Int) == 91) = false := by rw [beq_eq_false_iff_ne]; omega
  by_cases h93 : c.toNat = 93
  · have b : ((c.toNat : Int) == 93) = true := by rw [h93]; rfl
    have hy : (symS l).1 = 1 := yes 93 (by decide) h93
    simp -implicitDefEqProofs [ix, f40, f41, f91, b, hy]
  have f93 : ((c.toNat : Int) == 93) = false := by rw [beq_eq_false_iff_ne]; omega
  by_cases h60 : c.toNat = 60
  · have b : ((c.toNat : Int) == 60) = true := by rw [h60]; rfl
    have hy : (symS l).1 = 1 := yes 60 (by decide) h60
    simp -implicitDefEqProofs [ix, f40, f41, f91, f93, b, hy]
  have f60 : ((c.toNat : Int) == 60) = false := by rw [beq_eq_false_iff_ne]; omega
  by_cases h62 : c.toNat = 62
  · have b : ((c.toNat : Int) == 62) = true := by rw [h62]; rfl
    have hy : (symS l).1 = 1 := yes 62 (by decide) h62
    simp -implicitDefEqProofs [ix, f40, f41, f91, f93, f60, b, hy]
  have f62 : ((c.toNat : Int) == 62) = false := by rw [beq_eq_false_iff_ne]; omega
  by_cases h123 : c.toNat = 123
  · have b : ((c.toNat : Int) == 123) = true := by rw [h123]; rfl
    have hy : (symS l).1 = 1 := yes 123 (by decide) h123
    simp -implicitDefEqProofs [ix, f40, f41, f91, f93, f60, f62, b, hy]
  have f123 : ((c.toNat : Int) == 123) = false := by rw [beq_eq_false_iff_ne]; omega
  by_cases h125 : c.toNat = 125
  · have b : ((c.toNat : Int) == 125) = true := by rw [h125]; rfl
    have hy : (symS l).1 = 1 := yes 125 (by decide) h125
    simp -implicitDefEqProofs [ix, f40, f41, f91, f93, f60, f62, f123, b, hy]
  have f125 : ((c.toNat : Int) == 125) = false := by rw [beq_eq_false_iff_ne]; omega
  by_cases h44 : c.toNat = 44
  · have b : ((c.toNat : Int) == 44) = true := by rw [h44]; rfl
    have hy : (symS l).1 = 1 := yes 44 (by decide) h44
    simp -implicitDefEqProofs [ix, f40, f41, f91, f93, f60, f62, f123, f125, b, hy]
  have f44 : ((c.toNat : Int) == 44) = false := by rw [beq_eq_false_iff_ne]; omega
  by_cases h46 : c.toNat = 46
  · have b : ((c.toNat : Int) == 46) = true := by rw [h46]; rfl
    have hy : (symS l).1 = 1 := yes 46 (by decide) h46
    simp -implicitDefEqProofs [ix, f40, f41, f91, f93, f60, f62, f123, f125, f44, b, hy]
  have f46 : ((c.toNat : Int) == 46) = false := by rw [beq_eq_false_iff_ne]; omega
  by_cases h59 : c.toNat = 59
  · have b : ((c.toNat : Int) == 59) = true := by rw [h59]; rfl
    have hy : (symS l).1 = 1 := yes 59 (by decide) h59
    simp -implicitDefEqProofs [ix, f40, f41, f91, f93, f60, f62, f123, f125, f44, f46, b, hy]
  have f59 : ((c.toNat : Int) == 59) = false := by rw [beq_eq_false_iff_ne]; omega
  by_cases h58 : c.toNat = 58
  · have b : ((c.toNat : Int) == 58) = true := by rw [h58]; rfl
    have hy : (symS l).1 = 1 := yes 58 (by decide) h58
    simp -implicitDefEqProofs [ix, f40, f41, f91, f93, f60, f62, f123, f125, f44, f46, f59, b, hy]
  have f58 : ((c.toNat : Int) == 58) = false := by rw [beq_eq_false_iff_ne]; omega
  by_cases h61 : c.toNat = 61
  · have b : ((c.toNat : Int) == 61) = true := by rw [h61]; rfl
    have hy : (symS l).1 = 1 := yes 61 (by decide) h61
    simp -implicitDefEqProofs [ix, f40, f41, f91, f93, f60, f62, f123, f125, f44, f46, f59, f58, b, hy]
  have f61 : ((c.toNat : Int) == 61) = false := by rw [beq_eq_false_iff_ne]; omega
  by_cases h38 : c.toNat = 38
  · have b : ((c.toNat : Int) == 38) = true := by rw [h38]; rfl
    have hy : (symS l).1 = 1 := yes 38 (by decide) h38
    simp -implicitDefEqProofs [ix, f40, f41, f91, f93, f60, f62, f123, f125, f44, f46, f59, f58, f61, b, hy]
  have f38 : ((c.toNat : Int) == 38) = false := by rw [beq_eq_false_iff_ne]; omega
  by_cases h124 : c.toNat = 124
  · have b : ((c.toNat : Int) == 124) = true := by rw [h124]; rfl
    have hy : (symS l).1 = 1 := yes 124 (by decide) h124
    simp -implicitDefEqProofs [ix, f40, f41, f91, f93, f60, f62, f123, f125, f44, f46, f59, f58, f61, f38, b, hy]
  have f124 : ((c.toNat : Int) == 124) = false := by rw [beq_eq_false_iff_ne]; omega
  by_cases h47 : c.toNat = 47
  · have b : ((c.toNat : Int) == 47) = true := by rw [h47]; rfl
    have hy : (symS l).1 = 1 := yes 47 (by decide) h47
    simp -implicitDefEqProofs [ix, f40, f41, f91, f93, f60, f62, f123, f125, f44, f46, f59, f58, f61, f38, f124, b, hy]
  have f47 : ((c.toNat : Int) == 47) = false := by rw [beq_eq_false_iff_ne]; omega
  by_cases h35 : c.toNat = 35
  · have b : ((c.toNat : Int) == 35) = true := by rw [h35]; rfl
    have hy : (symS l).1 = 1 := yes 35 (by decide) h35
    simp -implicitDefEqProofs [ix, f40, f41, f91, f93, f60, f62, f123, f125, f44, f46, f59, f58, f61, f38, f124, f47, b, hy]
  have f35 : ((c.toNat : Int) == 35) = false := by rw [beq_eq_false_iff_ne]; omega
  by_cases h64 : c.toNat = 64
  · have b : ((c.toNat : Int) == 64) = true := by rw [h64]; rfl
    have hy : (symS l).1 = 1 := yes 64 (by decide) h64
    simp -implicitDefEqProofs [ix, f40, f41, f91, f93, f60, f62, f123, f125, f44, f46, f59, f58, f61, f38, f124, f47, f35, b, hy]
  have f64 : ((c.toNat : Int) == 64) = false := by rw [beq_eq_false_iff_ne]; omega
  have hno : symC.contains c = false := by
    cases h : symC.contains c with
    | false => rfl
    | true =>
      exfalso
      have hm : c ∈ symC := by simpa using h
      simp only [symC, List.mem_cons, List.not_mem_nil, or_false] at hm
      rcases hm with rfl | rfl | rfl | rfl | rfl | rfl | rfl | rfl | rfl | rfl | rfl | rfl | rfl | rfl | rfl | rfl | rfl | rfl <;> simp at *
  have hy : (symS l).1 = 0 := by rw [hok, hno]; rfl
  simp -implicitDefEqProofs [ix, f40, f41, f91, f93, f60, f62, f123, f125, f44, f46, f59, f58, f61, f38, f124, f47, f35, f64, hy]
end Go.Proofs.YtbabdjhikamkoaaDoor

namespace Go.Proofs.YtbabdjhikamkoaaDoor
set_option linter.unusedSimpArgs false
set_option linter.unusedVariables false
open Go Go.Abs
variable {q : Gl}

abbrev tokR (k : Int) (t : List UInt8) (n : Nat) (e : Int) : T := .tu [.ag (tkc k t 0), iv (n : Int), iv e]
def rtokT (l : List UInt8) : T :=
  match l with
  | [] => tokR 0 [] 0 8
  | c :: _ =>
    if isLow c || isUp c then (if 32 < runN (isUp c) l then tokR 0 [] 0 7 else tokR (if isUp c then 2 else 1) (l.take (runN (isUp c) l)) (runN (isUp c) l) 0)
    else if 0 < figR l then tokR 4 (l.take (figR l)) (figR l) (numS (l.take (figR l))).2
    else if c.toNat = 34 then (if (quoN (l.drop 1)).2 = 0 then tokR 3 ((l.drop 1).take (quoN (l.drop 1)).1) ((quoN (l.drop 1)).1 + 2) 0 else tokR 0 [] 0 (quoN (l.drop 1)).2)
    else if 0 < (symS l).1 then tokR 5 (l.take (symS l).1) (symS l).1 0 else tokR 0 [] 0 8

theorem nextS_cons {c : UInt8} {r l : List UInt8} (h : c :: r = l) : nextS l =
    if isLow c then ⟨1, l.take (runN false l), if 32 < runN false l then 7 else 0, runN false l⟩
    else if isUp c then ⟨2, l.take (runN true l), if 32 < runN true l then 7 else 0, runN true l⟩
    else if isDig c || decide (c.toNat = 45) then ⟨4, l.take (figN l), figE (l.take (figN l)), figN l⟩
    else if c.toNat = 34 then ⟨3, (l.drop 1).take (quoN (l.drop 1)).1, (quoN (l.drop 1)).2, 1 + (quoN (l.drop 1)).1 + (if (quoN (l.drop 1)).2 = 0 then 1 else 0)⟩
    else ⟨5, l.take (symS l).1, (symS l).2, (symS l).1⟩ := by subst h; rfl
theorem rtokT_cons {c : UInt8} {r l : List UInt8} (h : c :: r = l) : rtokT l =
    if isLow c || isUp c then (if 32 < runN (isUp c) l then tokR 0 [] 0 7 else tokR (if isUp c then 2 else 1) (l.take (runN (isUp c) l)) (runN (isUp c) l) 0)
    else if 0 < figR l then tokR 4 (l.take (figR l)) (figR l) (numS (l.take (figR l))).2
    else if c.toNat = 34 then (if (quoN (l.drop 1)).2 = 0 then tokR 3 ((l.drop 1).take (quoN (l.drop 1)).1) ((quoN (l.drop 1)).1 + 2) 0 else tokR 0 [] 0 (quoN (l.drop 1)).2)
    else if 0 < (symS l).1 then tokR 5 (l.take (symS l).1) (symS l).1 0 else tokR 0 [] 0 8 := by subst h; rfl

theorem low_not_up {c : UInt8} (h : isLow c = true) : isUp c = false := by
  simp only [isLow, isUp, Bool.and_eq_true, decide_eq_true_eq] at h ⊢
  rw [Bool.and_eq_false_iff]; right; rw [decide_eq_false_iff_not]; omega

theorem rtok_next (l : List UInt8) (h0 : l.isEmpty = false) : if (nextS l).e = 0 then rtokT l = tokR (nextS l).k (nextS l).t (nextS l).n 0 else ∃ k t n, rtokT l = tokR k t n (nextS l).e := by
  cases l with
  | nil => cases h0
  | cons c r =>
    generalize hl : c :: r = l
    have hN := nextS_cons hl
    have hR := rtokT_cons hl
    by_cases t1 : isLow c = true
    · rw [if_pos t1] at hN
      rw [t1, low_not_up t1] at hR
      simp only [Bool.true_or, if_true, Bool.false_eq_true, if_false] at hR
      rw [hN, hR]
      by_cases h : 32 < runN false l
      · simp only [if_pos h]
        exact ⟨0, [], 0, rfl⟩
      · simp [if_neg h]
    · rw [if_neg t1] at hN
      have t1' : isLow c = false := by simpa using t1
      by_cases t2 : isUp c = true
      · rw [if_pos t2] at hN
        rw [t2] at hR
        simp only [Bool.or_true, if_true] at hR
        rw [hN, hR]
        by_cases h : 32 < runN true l
        · simp only [if_pos h]
          exact ⟨0, [], 0, rfl⟩
        · simp [if_neg h]
      · rw [if_neg t2] at hN
        have t2' : isUp c = false := by simpa using t2
        rw [t1', t2'] at hR
        simp only [Bool.or_self, Bool.false_eq_true, if_false] at hR
        have hfig : figN l = minN l + ((l.drop (minN l)).takeWhile isDig).length := rfl
        have hmin : minN l = if c == 45 then 1 else 0 := by
          rw [← hl]; unfold minN; cases h : (c == 45) <;> simp [h]
        by_cases t3 : (isDig c || decide (c.toNat = 45)) = true
        · rw [if_pos t3] at hN
          by_cases h1 : figN l = minN l
          · -- a hyphen alone
            have hr : figR l = 0 := by rw [figR, if_pos h1]
            have hc : c = 45 := by
              by_cases h45 : c = 45
              · exact h45
              · exfalso
                have hd : isDig c = true := by
                  rcases Bool.or_eq_true_iff.1 t3 with h | h
                  · exact h
                  · exact absurd (UInt8.toNat_inj.1 (by have := of_decide_eq_true h; show c.toNat = 45; omega)) h45
                have : (c == 45) = false := by simpa using h45
                rw [this] at hmin
                have hm0 : minN l = 0 := hmin
                rw [hm0] at hfig h1
                rw [List.drop_zero, ← hl, List.takeWhile_cons, if_pos hd] at hfig
                rw [← hl] at h1
                simp at hfig
                omega
            have hm1 : minN l = 1 := by rw [hmin, hc]; rfl
            have hf1 : figN l = 1 := by rw [h1, hm1]
            have htk : l.take (figN l) = [45] := by rw [hf1, ← hl, hc]; rfl
            have he : figE (l.take (figN l)) = 8 := by rw [htk]; rfl
            rw [hr] at hR
            have h34 : ¬ c.toNat = 34 := by rw [hc]; decide
            have hsy : (symS l).1 = 0 := by
              rw [← hl, hc]
              have a1 : Lib.hasPrefix (45 :: r) [60, 33] = false := by simp [Lib.hasPrefix, List.isPrefixOf]
              have a2 : Lib.hasPrefix (45 :: r) [33, 62] = false := by simp [Lib.hasPrefix, List.isPrefixOf]
              unfold symS
              rw [a1, a2]
              rfl
            rw [if_neg (by omega), if_neg h34, hsy, if_neg (by omega)] at hR
            rw [hN]
            simp only [he]
            exact ⟨0, [], 0, hR⟩
          · have hr : figR l = figN l := by rw [figR, if_neg h1]
            have hpos : 0 < figN l := by omega
            have hne : l.take (figN l) ≠ [45] := by
              intro e
              have hlen := congrArg List.length e
              rw [List.length_take] at hlen
              have := figN_le l
              have hf1 : figN l = 1 := by simp at hlen; omega
              have hc : c = 45 := by
                rw [hf1, ← hl] at e
                injection e
              rw [hc] at hmin
              have : minN l = 1 := hmin
              omega
            have he : figE (l.take (figN l)) = (numS (l.take (figN l))).2 := by rw [figE, if_neg hne]
            rw [hr, if_pos hpos] at hR
            rw [hN, hR]
            simp only [he]
            split
            · rename_i h; rw [h]
            · exact ⟨_, _, _, rfl⟩
        · rw [if_neg t3] at hN
          have t3' : (isDig c || decide (c.toNat = 45)) = false := by simpa using t3
          have hd : isDig c = false := (Bool.or_eq_false_iff.1 t3').1
          have h45 : ¬ c.toNat = 45 := of_decide_eq_false (Bool.or_eq_false_iff.1 t3').2
          have hc45 : (c == 45) = false := by
            rw [beq_eq_false_iff_ne]
            intro e; rw [e] at h45; exact h45 rfl
          rw [hc45] at hmin
          have hm0 : minN l = 0 := hmin
          have hf0 : figN l = 0 := by
            rw [hfig, hm0, List.drop_zero, ← hl, List.takeWhile_cons, if_neg (by rw [hd]; simp)]
            rfl
          have hr : figR l = 0 := by rw [figR, if_pos (by rw [hf0, hm0])]
          rw [hr, if_neg (by omega)] at hR
          by_cases t4 : c.toNat = 34
          · rw [if_pos t4] at hN hR
            rw [hN, hR]
            by_cases h : (quoN (l.drop 1)).2 = 0
            · simp only [if_pos h]
              rw [show 1 + (quoN (l.drop 1)).1 + 1 = (quoN (l.drop 1)).1 + 2 by omega]
            · simp only [if_neg h]
              exact ⟨0, [], 0, rfl⟩
          · rw [if_neg t4] at hN hR
            rw [hN, hR]
            simp only
            have hsym : ((symS l).2 = 0 ∧ 0 < (symS l).1) ∨ ((symS l).2 = 8 ∧ (symS l).1 = 0) := by
              unfold symS
              split
              · left; simp
              · split
                · left; simp
                · right; simp
            rcases hsym with ⟨h1, h2⟩ | ⟨h1, h2⟩
            · rw [if_pos h1, if_pos h2]
            · rw [if_neg (by omega), if_neg (by omega), h1]
              exact ⟨0, [], 0, rfl⟩
end Go.Proofs.YtbabdjhikamkoaaDoor

namespace Go.Proofs.YtbabdjhikamkoaaDoor
set_option linter.unusedSimpArgs false
set_option linter.unusedVariables false
open Go Go.Abs
variable {q : Gl}

noncomputable def gRun : List T → Option T := g2 tStr tBool fun s b => if s.size ≤ 65536 then some (iv (runN b s.data.toList : Int)) else none
theorem hRun : GOK Tryd.prog (G q) 61 gRun := g2_ok fun a b s c r ha hb hr => by
  have e1 : a = sv s := ha
  have e2 : b = bv c := hb
  subst e1; subst e2
  split at hr
  · rename_i h; injection hr with hr; subst hr; exact rrun_call s c h
  · cases hr
noncomputable def gFig : List T → Option T := g1 tStr fun s => if s.size ≤ 65536 ∧ 0 < s.size then some (iv (figR s.data.toList : Int)) else none
theorem hFig : GOK Tryd.prog (G q) 62 gFig := g1_ok fun a s r ha hr => by
  have e1 : a = sv s := ha
  subst e1
  split at hr
  · rename_i h; injection hr with hr; subst hr; exact rfig_call s h.1 h.2
  · cases hr
noncomputable def gQuo : List T → Option T := g1 tStr fun s => if s.size ≤ 65536 ∧ 0 < s.size then some (quoT s.data.toList) else none
theorem hQuo : GOK Tryd.prog (G q) 63 gQuo := g1_ok fun a s r ha hr => by
  have e1 : a = sv s := ha
  subst e1
  split at hr
  · rename_i h; injection hr with hr; subst hr; exact rquo_call s h.1 h.2
  · cases hr
noncomputable def gSym : List T → Option T := g1 tStr fun s => if s.size ≤ 65536 ∧ 0 < s.size then some (iv ((symS s.data.toList).1 : Int)) else none
theorem hSym : GOK Tryd.prog (G q) 64 gSym := g1_ok fun a s r ha hr => by
  have e1 : a = sv s := ha
  subst e1
  split at hr
  · rename_i h; injection hr with hr; subst hr; exact rsym_call s h.1 h.2
  · cases hr
noncomputable def gRNum : List T → Option T := g1 tStr fun s => if s.size ≤ 281474976710656 then some (numT s.data.toList) else none
theorem hRNum : GOK Tryd.prog (G q) 18 gRNum := g1_ok fun a s r ha hr => by
  have e1 : a = sv s := ha
  subst e1
  split at hr
  · rename_i h; injection hr with hr; subst hr; exact rnumber_call s h
  · cases hr

noncomputable def tbTk : Tbl := [(60, gChr isLow), (32, gChr isUp), (61, gRun), (62, gFig), (63, gQuo), (64, gSym), (18, gRNum)]
theorem ctxTk : Ctx Tryd.prog (G q) (orc tbTk) := (TblOK.cons (gChr_ok lower_call) (.cons (gChr_ok upper_call) (.cons hRun (.cons hFig (.cons hQuo (.cons hSym (.cons hRNum .nil))))))).ctx mixed

theorem bld2 {Φ : Oracle} {H : Heap} {nx : Nat} (k : Int) (t : ByteArray) : evalK Φ H nx (.build [(0, 1), (1, 1), (2, 1)] [.int .i64 0, .string ⟨#[]⟩, .int .i64 0] [0, 1]) [.t (iv k), .t (sv t)] = some (.t (.ag [iv k, sv t, iv 0]), H, nx) := rfl
theorem bldq2 {Φ : Oracle} {H : Heap} {nx : Nat} (k : Int) (t : ByteArray) : evalQ Φ H nx (.build [(0, 1), (1, 1), (2, 1)] [.int .i64 0, .string ⟨#[]⟩, .int .i64 0] [0, 1]) [.t (iv k), .t (sv t)] = some (.t (.ag [iv k, sv t, iv 0])) := rfl
theorem sto0 (k l : Int) (t : ByteArray) (x y z : PV) (R : Heap) : storeM 3 ((0, .cells 39 [x, y, z]) :: R) (.ptr 0 0) (.t (.ag [iv k, sv t, iv l])) = some ((0, .cells 39 [.t (iv k), .t (sv t), .t (iv l)]) :: R) := rfl
theorem ldt0 (k l : Int) (t : ByteArray) (R : Heap) : loadM true 3 ((0, .cells 39 [.t (iv k), .t (sv t), .t (iv l)]) :: R) (.ptr 0 0) = some (.t (.ag [iv k, sv t, iv l])) := rfl

set_option maxHeartbeats 2000000 in
theorem rtok_call (s : ByteArray) (hs : s.size ≤ 65536) (h0 : 0 < s.size) : CallT Tryd.prog (G q) 41 [sv s] (· = rtokT s.data.toList) := by
  have hlen : s.data.toList.length = s.size := rfl
  obtain ⟨l, hl⟩ : ∃ l, l = s.data.toList := ⟨_, rfl⟩
  rw [← hl] at hlen ⊢
  obtain ⟨c, r, hcr⟩ : ∃ c r, c :: r = l := by
    cases l with
    | nil => simp at hlen; omega
    | cons c r => exact ⟨c, r, rfl⟩
  have ix := index_str s 0 c (by rw [← hl, ← hcr]; rfl)
  simp only [Int.natCast_zero] at ix
  have hR := rtokT_cons hcr
  have q1 := gChr_eq isLow c
  have q2 := gChr_eq isUp c
  have q3 : ∀ b, gRun [.v (.string s), bv b] = some (iv (runN b l : Int)) := by intro b; rw [gRun, g2_eq (τ := tStr) (σ := tBool) (x := s) (y := b) rfl rfl, if_pos hs, hl]
  have q4 : gFig [.v (.string s)] = some (iv (figR l : Int)) := by rw [gFig, g1_eq (τ := tStr) (x := s) rfl, if_pos ⟨hs, h0⟩, hl]
  have q5 : gQuo [.v (.string s)] = some (quoT l) := by rw [gQuo, g1_eq (τ := tStr) (x := s) rfl, if_pos ⟨hs, h0⟩, hl]
  have q6 : gSym [.v (.string s)] = some (iv ((symS l).1 : Int)) := by rw [gSym, g1_eq (τ := tStr) (x := s) rfl, if_pos ⟨hs, h0⟩, hl]
  have slt : ∀ n : Nat, n ≤ l.length → slstrM (.t (sv s)) none (some (.t (iv (n : Int)))) = some (.t (sv (bs (l.take n)))) := by
    intro n hn
    rw [slstr_to s n (by omega)]
    have e3 : s.extract 0 n = bs (l.take n) := by
      rw [← bs_data (s.extract 0 n), Lib.extract_data, ← hl]; rfl
    rw [e3]
  refine k_r01_token.call rfl ?_
  refine mc_runs ctxTk ?_
  cases t1 : isLow c with
  | true =>
    rw [t1, low_not_up t1] at hR
    simp only [Bool.true_or, if_true, Bool.false_eq_true, if_false] at hR
    rw [t1] at q1
    rw [low_not_up t1] at q2
    have hrl := runN_le false l
    have sl := slt _ hrl
    have q3' := q3 false
    generalize runN false l = n at *
    by_cases h : 32 < n
    · rw [if_pos h] at hR
      have h' : (32 : Int) < (n : Int) := by omega
      simp -implicitDefEqProofs [M_r01_token, ix, tbTk, q1, q2, q3', h', -evalK_build, bld0, sto0, ldt0, hR]
    · rw [if_neg h] at hR
      have h' : ¬ (32 : Int) < (n : Int) := by omega
      simp -implicitDefEqProofs [M_r01_token, ix, tbTk, q1, q2, q3', h', sl, -evalK_build, bld2, sto0, ldt0, hR]
  | false =>
  rw [t1] at q1
  cases t2 : isUp c with
  | true =>
    rw [t1, t2] at hR
    simp only [Bool.or_true, if_true] at hR
    rw [t2] at q2
    have hrl := runN_le true l
    have sl := slt _ hrl
    have q3' := q3 true
    generalize runN true l = n at *
    by_cases h : 32 < n
    · rw [if_pos h] at hR
      have h' : (32 : Int) < (n : Int) := by omega
      simp -implicitDefEqProofs [M_r01_token, ix, tbTk, q1, q2, q3', h', -evalK_build, bld0, sto0, ldt0, hR]
    · rw [if_neg h] at hR
      have h' : ¬ (32 : Int) < (n : Int) := by omega
      simp -implicitDefEqProofs [M_r01_token, ix, tbTk, q1, q2, q3', h', sl, -evalK_build, bld2, sto0, ldt0, hR]
  | false =>
  rw [t2] at q2
  rw [t1, t2] at hR
  simp only [Bool.or_self, Bool.false_eq_true, if_false] at hR
  by_cases hf : 0 < figR l
  · rw [if_pos hf] at hR
    have hfl : figR l ≤ l.length := by
      have := figN_le l
      unfold figR; split
      · omega
      · exact this
    have sl := slt _ hfl
    have gn : gRNum [.v (.string (bs (l.take (figR l))))] = some (numT (l.take (figR l))) := by
      rw [gRNum, g1_eq (τ := tStr) (x := bs (l.take (figR l))) rfl, if_pos (by show (l.take (figR l)).toArray.size ≤ _; simp; omega)]
    generalize l.take (figR l) = t at *
    generalize figR l = n at *
    have hf' : (0 : Int) < (n : Int) := by omega
    simp -implicitDefEqProofs [M_r01_token, ix, tbTk, q1, q2, q4, hf, sl, gn, extractV, numT, -evalK_build, bld2, sto0, ldt0, hR]
  · rw [if_neg hf] at hR
    have hf0 : figR l = 0 := by omega
    rw [hf0] at q4
    have q4' : gFig [.v (.string s)] = some (iv 0) := q4
    by_cases h34 : c.toNat = 34
    · rw [if_pos h34] at hR
      have b34 : ((c.toNat : Int) == 34) = true := by rw [h34]; rfl
      unfold quoT at q5
      obtain ⟨hq1, hq2, hq3⟩ := quoN_le (l.drop 1)
      rw [List.length_drop] at hq1 hq2
      obtain ⟨n, hn⟩ : ∃ n, n = (quoN (l.drop 1)).1 := ⟨_, rfl⟩
      obtain ⟨e, he⟩ : ∃ e, e = (quoN (l.drop 1)).2 := ⟨_, rfl⟩
      rw [← hn, ← he] at hR q5 hq2
      rw [← hn] at hq1
      by_cases h : e = 0
      · rw [if_pos h] at hR q5
        obtain ⟨m, hm⟩ : ∃ m, m = n + 2 := ⟨_, rfl⟩
        obtain ⟨m1, hm1⟩ : ∃ m1, m1 = n + 1 := ⟨_, rfl⟩
        rw [← hm] at hR q5
        have hlt := hq2 h
        have e1 : IntKind.i64.wrap ((m : Int) - 1) = (m1 : Int) := by rw [wrap_i64 (by omega) (by omega)]; omega
        have sl : slstrM (.t (sv s)) (some (.t (.v (.int .i64 1)))) (some (.t (iv (m1 : Int)))) = some (.t (sv (bs ((l.drop 1).take n)))) := by
          have := slstr_nat s 1 m1 (by omega) (by omega)
          have e3 : s.extract 1 m1 = bs ((l.drop 1).take n) := by
            rw [← bs_data (s.extract 1 m1), Lib.extract_data, ← hl, hm1, Nat.add_sub_cancel]
          rw [e3] at this
          exact this
        simp -implicitDefEqProofs [M_r01_token, ix, tbTk, q1, q2, q4', b34, q5, extractV, e1, sl, -evalK_build, bld2, sto0, ldt0, hR]
      · rw [if_neg h] at hR q5
        have hb : (e != 0) = true := by rw [bne_iff_ne]; exact h
        simp -implicitDefEqProofs [M_r01_token, ix, tbTk, q1, q2, q4', b34, q5, extractV, hb, -evalK_build, bld0, sto0, ldt0, hR]
    · rw [if_neg h34] at hR
      have b34 : ((c.toNat : Int) == 34) = false := by rw [beq_eq_false_iff_ne]; omega
      have hsl : (symS l).1 ≤ l.length := by
        unfold symS
        split
        · rename_i h
          rcases Bool.or_eq_true_iff.1 h with h | h
          · have := (List.isPrefixOf_iff_prefix.1 h).length_le; simpa using this
          · have := (List.isPrefixOf_iff_prefix.1 h).length_le; simpa using this
        · split
          · show 1 ≤ l.length; omega
          · simp
      have sl := slt _ hsl
      generalize (symS l).1 = n at *
      by_cases hp : 0 < n
      · rw [if_pos hp] at hR
        simp -implicitDefEqProofs [M_r01_token, ix, tbTk, q1, q2, q4', b34, q6, hp, sl, -evalK_build, -evalQ_build, bldq2, sto0, ldt0, hR]
      · rw [if_neg hp] at hR
        have hn0 : n = 0 := by omega
        subst hn0
        have q6' : gSym [.v (.string s)] = some (iv 0) := q6
        simp -implicitDefEqProofs [M_r01_token, ix, tbTk, q1, q2, q4', b34, q6', -evalK_build, bld0, sto0, ldt0, hR]
end Go.Proofs.YtbabdjhikamkoaaDoor

namespace Go.Proofs.YtbabdjhikamkoaaDoor
set_option linter.unusedSimpArgs false
set_option linter.unusedVariables false
open Go Go.Abs
variable {q : Gl}

noncomputable def gTok : List T → Option T := g1 tStr fun s => if s.size ≤ 65536 ∧ 0 < s.size then some (rtokT s.data.toList) else none
theorem hTok : GOK Tryd.prog (G q) 41 gTok := g1_ok fun a s r ha hr => by
  have e1 : a = sv s := ha
  subst e1
  split at hr
  · rename_i h; injection hr with hr; subst hr; exact rtok_call s h.1 h.2
  · cases hr
noncomputable def tbRs : Tbl := [(41, gTok)]
theorem ctxRs : Ctx Tryd.prog (G q) (orc tbRs) := (TblOK.cons hTok .nil).ctx mixed

structure RSc where
  f : Nat
  p : Nat
  ln : Nat
  cm : Bool
  out : List Tok
def scanC (f : Nat) (cm : Bool) (D : List UInt8) (l : Nat) : Except (Nat × Int) (List Tok) := scanG f (D.drop (skipS cm D).1) (l + (skipS cm D).2)
def SRs (s : ByteArray) (a : RSc) : AState := ⟨[(8, .t (iv (a.p : Int))), (7, .t (bv a.cm)), (6, .t (iv (a.ln : Int))), (5, rowP eTok 0 a.out), (0, .t (sv s))], rowH eTok 39 0 a.out, 1, 71⟩
structure OkRs (l : List UInt8) (R : Except (Nat × Int) (List Tok)) (a : RSc) : Prop where
  le : a.p ≤ l.length
  fu : l.length - a.p < a.f
  ln : a.ln ≤ a.p + 1
  ol : a.out.length ≤ a.p
  eq : ahead a.out (scanC a.f a.cm (l.drop a.p) a.ln) = R

theorem stp3 (k l : Int) (t : List UInt8) (x y z : PV) (R : Heap) : storeM 3 ((1, .cells 39 [x, y, z]) :: R) (.ptr 1 0) (.t (.ag (tkc k t l))) = some ((1, tkr k t l) :: R) := rfl
theorem stl1 (k l m : Int) (t : List UInt8) (R : Heap) : storeM 1 ((1, tkr k t l) :: R) (.ptr 1 2) (.t (iv m)) = some ((1, tkr k t m) :: R) := rfl
theorem ldt1 (k l : Int) (t : List UInt8) (R : Heap) : loadM true 3 ((1, tkr k t l) :: R) (.ptr 1 0) = some (.t (.ag (tkc k t l))) := rfl
theorem bst1 (k l : Int) (t : List UInt8) : bsliceM 39 3 [.int .i64 0, .string ⟨#[]⟩, .int .i64 0] 1 [(0, .t (.ag (tkc k t l)))] 2 = some (.row 2 0 1 3, .cells 39 [.t (iv k), .t (sv (bs t)), .t (iv l)]) := rfl

set_option maxHeartbeats 4000000 in
theorem rscan_call (s : ByteArray) (hlim : s.size ≤ lim) : CallT Tryd.prog (G q) 25 [sv s] (· = scanT s.data.toList) := by
  refine k_r01_Scan.call rfl ?_
  unfold M_r01_Scan
  obtain ⟨l, hl⟩ : ∃ l, l = s.data.toList := ⟨_, rfl⟩
  have hlen : l.length = s.size := by rw [hl]; rfl
  rw [← hl]
  by_cases hbig : 65536 < s.size
  · have hb' : (65536 : Int) < (s.size : Int) := by omega
    have hT : scanT l = .tu [nilS, iv 0, iv 7] := by rw [scanT, if_pos (by omega)]
    refine mc_runs ctx0 ?_
    simp -implicitDefEqProofs [hb', hT]
  have hb' : ¬ (65536 : Int) < (s.size : Int) := by omega
  have hs : s.size ≤ 65536 := by omega
  have hT : scanT l = match scanS l 1 with
    | .error x => .tu [nilS, iv (x.1 : Int), iv x.2]
    | .ok ts => .tu [treeS eTok ts, iv 0, iv 0] := by rw [scanT, if_neg (by omega)] <;> cases scanS l 1 <;> rfl
  obtain ⟨R, hR⟩ : ∃ R, R = scanS l 1 := ⟨_, rfl⟩
  rw [← hR] at hT
  refine mc_seq_runs ctxRs ?_
  simp -implicitDefEqProofs
  refine mc_seq_runs ctxRs ?_
  simp -implicitDefEqProofs [hb']
  refine mc_seq_runs ctxRs ?_
  simp -implicitDefEqProofs
  refine mc_seq_runs ctxRs ?_
  simp -implicitDefEqProofs
  refine mc_seq_runs ctxRs ?_
  simp -implicitDefEqProofs
  refine mc_cut (α := RSc) (SRs s) (fun a => OkRs l R a ∧ a.p = s.size) (fun _ => rfl) ?_ ?_
  · refine mc_seq_runs ctxRs ?_
    simp -implicitDefEqProofs
    refine mc_block ?_
    refine mc_while (SRs s) (fun a => s.size - a.p) (OkRs l R) ⟨l.length + 1, 0, 1, false, []⟩ (fun _ => rfl) ⟨Nat.zero_le _, by show l.length - 0 < l.length + 1; omega, Nat.le_refl _, by simp, ?_⟩ ?_ rfl ?_
    · show ahead [] (scanC (l.length + 1) false (l.drop 0) 1) = R
      rw [ahead_nil, hR, List.drop_zero]; rfl
    · exact sub_row0 (by omega) (by simp -implicitDefEqProofs [SRs, under, rowP])
    · rintro ⟨f, p, ln, cm, out⟩ hok
      have hok' := hok
      obtain ⟨hp, hfu, hln, hol, heq⟩ := hok
      simp only at hp hfu hln hol heq
      have r0 : RowAt eTok 39 (rowH eTok 39 0 out) 0 out := RowAt.head' eTok 39 0 out
      refine mc_runs ctxRs ?_
      by_cases hlt : p < s.size
      · obtain ⟨c, hc⟩ : ∃ c, l[p]? = some c := ⟨_, List.getElem?_eq_getElem (by omega)⟩
        have ix := index_str s p c (by rw [← hl]; exact hc)
        have hdrop : l.drop p = c :: l.drop (p + 1) := by
          have := List.drop_eq_getElem_cons (l := l) (i := p) (by omega)
          rw [this, (List.getElem?_eq_some_iff.1 hc).2]
        obtain ⟨p1, hp1⟩ : ∃ p1, p1 = p + 1 := ⟨_, rfl⟩
        rw [← hp1] at hdrop
        have e1 : IntKind.i64.wrap ((p : Int) + 1) = (p1 : Int) := by rw [hp1]; exact wrap_nat (by omega) (by omega)
        have hsk : skipS cm (l.drop p) = if c.toNat = 10 then ((skipS false (l.drop p1)).1 + 1, (skipS false (l.drop p1)).2 + 1)
            else if cm || decide (c.toNat = 37) then ((skipS true (l.drop p1)).1 + 1, (skipS true (l.drop p1)).2)
            else if c.toNat = 32 ∨ c.toNat = 9 ∨ c.toNat = 13 then ((skipS false (l.drop p1)).1 + 1, (skipS false (l.drop p1)).2)
            else (0, 0) := by rw [hdrop, skipS]
        have go : ∀ (ln' : Nat) (cm' : Bool), ln' ≤ ln + 1 → skipS cm (l.drop p) = ((skipS cm' (l.drop p1)).1 + 1, (ln' - ln) + (skipS cm' (l.drop p1)).2) → ln ≤ ln' → scanC f cm (l.drop p) ln = scanC f cm' (l.drop p1) ln' := by
          intro ln' cm' h1 h2 h3
          unfold scanC
          rw [h2]
          simp only
          rw [List.drop_drop, List.drop_drop, show p + ((skipS cm' (l.drop p1)).1 + 1) = p1 + (skipS cm' (l.drop p1)).1 by omega, show ln + ((ln' - ln) + (skipS cm' (l.drop p1)).2) = ln' + (skipS cm' (l.drop p1)).2 by omega]
        have nxt : ∀ (ln' : Nat) (cm' : Bool) (env : List (Nat × PV)), ln' ≤ ln + 1 → ln ≤ ln' → skipS cm (l.drop p) = ((skipS cm' (l.drop p1)).1 + 1, (ln' - ln) + (skipS cm' (l.drop p1)).2) →
            (∀ q ∈ (SRs s ⟨f, p1, ln', cm', out⟩).env, Abs.look env q.1 = some q.2) →
            Abs.Next Tryd.prog (G q) 0 (SRs s) (fun a' => OkRs l R a' ∧ s.size - a'.p < s.size - p) ⟨env, rowH eTok 39 0 out, 1, 71⟩ := by
          intro ln' cm' env h1 h2 h3 h4
          refine Abs.Next.mk ⟨f, p1, ln', cm', out⟩ ⟨⟨by show p1 ≤ _; omega, by show l.length - p1 < f; omega, by show ln' ≤ p1 + 1; omega, by show out.length ≤ p1; omega, ?_⟩, by show s.size - p1 < s.size - p; omega⟩ (sub_forget rfl rfl h4 fun q hq => ?_)
          · show ahead out (scanC f cm' (l.drop p1) ln') = R
            rw [← go ln' cm' h1 h3 h2]; exact heq
          · have : q ∈ rowH eTok 39 0 out := hq
            cases out with
            | nil => cases this
            | cons y r =>
              simp only [rowH, List.mem_singleton] at this
              subst this
              rfl
        have b10 : ((c.toNat : Int) == 10) = decide (c.toNat = 10) := by
          by_cases h : c.toNat = 10
          · rw [h]; rfl
          · rw [decide_eq_false h, beq_eq_false_iff_ne]; omega
        have b37 : ((c.toNat : Int) == 37) = decide (c.toNat = 37) := by
          by_cases h : c.toNat = 37
          · rw [h]; rfl
          · rw [decide_eq_false h, beq_eq_false_iff_ne]; omega
        by_cases h10 : c.toNat = 10
        · rw [if_pos h10] at hsk
          rw [decide_eq_true h10] at b10
          obtain ⟨ln1, hln1⟩ : ∃ ln1, ln1 = ln + 1 := ⟨_, rfl⟩
          have e2 : IntKind.i64.wrap ((ln : Int) + 1) = (ln1 : Int) := by rw [hln1]; exact wrap_nat (by omega) (by omega)
          simp -implicitDefEqProofs [SRs, hlt, ix, b10, e1, e2]
          exact nxt ln1 false _ (by omega) (by omega) (by rw [hsk, hln1, Nat.add_sub_cancel_left, Nat.add_comm 1]) (by simp -implicitDefEqProofs [SRs])
        · rw [if_neg h10] at hsk
          rw [decide_eq_false h10] at b10
          have same : ∀ cm', skipS cm (l.drop p) = ((skipS cm' (l.drop p1)).1 + 1, (skipS cm' (l.drop p1)).2) → skipS cm (l.drop p) = ((skipS cm' (l.drop p1)).1 + 1, (ln - ln) + (skipS cm' (l.drop p1)).2) := by
            intro cm' h; rw [h, Nat.sub_self, Nat.zero_add]
          cases hcm : cm with
          | true =>
            rw [hcm] at hsk
            simp only [Bool.true_or, if_true] at hsk
            subst hcm
            simp -implicitDefEqProofs [SRs, hlt, ix, b10, e1]
            exact nxt ln true _ (by omega) (by omega) (same true hsk) (by simp -implicitDefEqProofs [SRs])
          | false =>
            subst hcm
            by_cases h37 : c.toNat = 37
            · rw [decide_eq_true h37] at b37 hsk
              simp only [Bool.or_true, if_true] at hsk
              simp -implicitDefEqProofs [SRs, hlt, ix, b10, b37, e1]
              exact nxt ln true _ (by omega) (by omega) (same true hsk) (by simp -implicitDefEqProofs [SRs])
            · rw [decide_eq_false h37] at b37 hsk
              simp only [Bool.or_false, Bool.false_eq_true, if_false] at hsk
              by_cases h32 : c.toNat = 32
              · rw [if_pos (.inl h32)] at hsk
                have b32 : ((c.toNat : Int) == 32) = true := by rw [h32]; rfl
                simp -implicitDefEqProofs [SRs, hlt, ix, b10, b37, b32, e1]
                exact nxt ln false _ (by omega) (by omega) (same false hsk) (by simp -implicitDefEqProofs [SRs])
              · have b32 : ((c.toNat : Int) == 32) = false := by rw [beq_eq_false_iff_ne]; omega
                by_cases h9 : c.toNat = 9
                · rw [if_pos (.inr (.inl h9))] at hsk
                  have b9 : ((c.toNat : Int) == 9) = true := by rw [h9]; rfl
                  simp -implicitDefEqProofs [SRs, hlt, ix, b10, b37, b32, b9, e1]
                  exact nxt ln false _ (by omega) (by omega) (same false hsk) (by simp -implicitDefEqProofs [SRs])
                · have b9 : ((c.toNat : Int) == 9) = false := by rw [beq_eq_false_iff_ne]; omega
                  by_cases h13 : c.toNat = 13
                  · rw [if_pos (.inr (.inr h13))] at hsk
                    have b13 : ((c.toNat : Int) == 13) = true := by rw [h13]; rfl
                    simp -implicitDefEqProofs [SRs, hlt, ix, b10, b37, b32, b9, b13, e1]
                    exact nxt ln false _ (by omega) (by omega) (same false hsk) (by simp -implicitDefEqProofs [SRs])
                  · have b13 : ((c.toNat : Int) == 13) = false := by rw [beq_eq_false_iff_ne]; omega
                    rw [if_neg (by omega)] at hsk
                    -- a token
                    have heq2 : ahead out (scanG f (l.drop p) ln) = R := by
                      rw [← heq]; unfold scanC; rw [hsk]; rfl
                    obtain ⟨D, hD⟩ : ∃ D, D = l.drop p := ⟨_, rfl⟩
                    have hDl : D.length = l.length - p := by rw [hD, List.length_drop]
                    have hDe : D.isEmpty = false := by rw [hD, hdrop]; rfl
                    have hsl := slstr_from s p (by omega)
                    have hxd : (s.extract p s.size).data.toList = D := by
                      rw [Lib.extract_data, ← hl, ← hD]; exact List.take_of_length_le (by omega)
                    have hxs : (s.extract p s.size).size = D.length := by rw [← hxd]; rfl
                    have gt : gTok [.v (.string (s.extract p s.size))] = some (rtokT D) := by
                      rw [gTok, g1_eq (τ := tStr) (x := s.extract p s.size) rfl, if_pos ⟨by omega, by omega⟩, hxd]
                    have hrn := rtok_next D hDe
                    have hpos := next_pos D hDe
                    rw [← hD] at heq2
                    obtain ⟨f', rfl⟩ : ∃ f', f = f' + 1 := ⟨f - 1, by omega⟩
                    rw [scanG, hDe] at heq2
                    simp only [Bool.false_eq_true, if_false] at heq2
                    obtain ⟨k, hk⟩ : ∃ k, k = (nextS D).k := ⟨_, rfl⟩
                    obtain ⟨t, ht⟩ : ∃ t, t = (nextS D).t := ⟨_, rfl⟩
                    obtain ⟨e, he⟩ : ∃ e, e = (nextS D).e := ⟨_, rfl⟩
                    obtain ⟨n, hnn⟩ : ∃ n, n = (nextS D).n := ⟨_, rfl⟩
                    rw [← he, ← hnn] at hpos
                    rw [← hk, ← ht, ← he, ← hnn] at heq2 hrn
                    by_cases he0 : e = 0
                    · rw [if_pos he0] at hrn
                      rw [hrn] at gt
                      obtain ⟨hn1, hn2⟩ := hpos he0
                      rw [if_neg (by simpa using he0)] at heq2
                      obtain ⟨p2, hp2⟩ : ∃ p2, p2 = p + n := ⟨_, rfl⟩
                      have e3 : IntKind.i64.wrap ((p : Int) + (n : Int)) = (p2 : Int) := by rw [wrap_i64 (by omega) (by omega)]; omega
                      have hdd : D.drop n = l.drop p2 := by rw [hD, List.drop_drop, hp2]
                      rw [hdd] at heq2
                      have r0' : RowAt eTok 39 ((2, .cells 39 [.t (iv k), .t (sv (bs t)), .t (iv (ln : Int))]) :: (1, tkr k t ln) :: rowH eTok 39 0 out) 0 out := (r0.cons (k := 1) (by omega)).cons (k := 2) (by omega)
                      obtain ⟨b2, H2, n2, ap2, r2, ne2, hle2, hold, hb2⟩ := app_some (e := eTok) (ty := 39) (by' := 32) (nx := 3) (m := [⟨k, t, ln⟩]) r0' (src_one (e := eTok) (b := 2) (ty := 39) ⟨k, t, ln⟩ rfl) (by simp; omega) (by simp; omega)
                      have ap2' : appM 39 3 32 ((2, .cells 39 [.t (iv k), .t (sv (bs t)), .t (iv (ln : Int))]) :: (1, tkr k t ln) :: rowH eTok 39 0 out) 3 (rowP eTok 0 out) (.row 2 0 1 3) = some (rowP eTok b2 (out ++ [⟨k, t, ln⟩]), H2, n2) := ap2
                      simp -implicitDefEqProofs [SRs, hlt, ix, b10, b37, b32, b9, b13, hsl, tbRs, gt, extractV, stp3, stl1, ldt1, bst1, ap2', e3]
                      refine Abs.Next.mk ⟨f', p2, ln, false, out ++ [⟨k, t, ln⟩]⟩ ⟨⟨by show p2 ≤ _; omega, by show l.length - p2 < f'; omega, by show ln ≤ p2 + 1; omega, by simp; omega, ?_⟩, by show s.size - p2 < s.size - p; omega⟩ ?_
                      · show ahead (out ++ [⟨k, t, ln⟩]) (scanC f' false (l.drop p2) ln) = R
                        rw [← heq2]
                        unfold scanC
                        cases scanG f' ((l.drop p2).drop (skipS false (l.drop p2)).1) (ln + (skipS false (l.drop p2)).2) with
                        | error x => rfl
                        | ok ts => show Except.ok _ = Except.ok _; simp
                      · unfold SRs
                        exact sub_row1 (k := b2) r2 (by omega) (by omega) (by simp -implicitDefEqProofs [ren_rowP, under_rowP, ren, under])
                    · rw [if_neg he0] at hrn
                      obtain ⟨k', t', n', hrn⟩ := hrn
                      rw [hrn] at gt
                      have hRe : R = .error (ln, e) := by rw [← heq2, if_pos he0]; rfl
                      rw [hRe] at hT
                      simp only at hT
                      have hb : (e != 0) = true := by rw [bne_iff_ne]; exact he0
                      simp -implicitDefEqProofs [SRs, hlt, ix, b10, b37, b32, b9, b13, hsl, tbRs, gt, extractV, stp3, hb, hT]
      · have hps : p = s.size := by omega
        subst hps
        simp -implicitDefEqProofs [SRs]
        refine Abs.Next.mk ⟨f, s.size, ln, cm, out⟩ ⟨hok', rfl⟩ ?_
        exact sub_row1 (k := 0) r0 (by omega) (by omega) (by simp -implicitDefEqProofs [ren_rowP, under_rowP, ren, under])
  rintro ⟨f, p, ln, cm, out⟩ ⟨hok, hps⟩
  obtain ⟨hp, hfu, hln, hol, heq⟩ := hok
  simp only at hp hfu hln hol heq hps
  subst hps
  have r0 : RowAt eTok 39 (rowH eTok 39 0 out) 0 out := RowAt.head' eTok 39 0 out
  have hd0 : l.drop s.size = [] := List.drop_eq_nil_of_le (by omega)
  have hRo : R = .ok out := by
    rw [← heq, hd0]
    show ahead out (scanG f ([].drop (skipS cm []).1) (ln + (skipS cm []).2)) = _
    cases f with
    | zero => show Except.ok (out ++ []) = _; rw [List.append_nil]
    | succ f => rw [scanG]; show Except.ok (out ++ []) = _; rw [List.append_nil]
  rw [hRo] at hT
  simp only at hT
  have ht := toT_tu3 r0 (iv 0) (iv 0)
  refine mc_runs ctxRs ?_
  simp -implicitDefEqProofs [SRs, hT, -oneOf, ht]
end Go.Proofs.YtbabdjhikamkoaaDoor
