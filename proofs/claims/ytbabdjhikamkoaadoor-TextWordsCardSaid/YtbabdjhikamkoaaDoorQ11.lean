/-
  The words of a line, in plain words. No statement of the program stands here.
  text.Words: what it returns. No statement of the program stands here.
  The document's Words: what it returns. No statement of the program stands here.
  The scanner: its run of letters. No statement of the program stands here.
  The scanner passes white space and comments. No statement of the program stands here.
-/
import Derived.Test.YtbabdjhikamkoaaDoorQ10
import Derived.Lib.CountLaws
import Derived.Lib.CutLaws
import Derived.Test.YtbabdjhikamkoaaDoorQ6
namespace Go.Proofs.YtbabdjhikamkoaaDoor
set_option linter.unusedSimpArgs false
set_option linter.unusedVariables false
open Go Go.Abs

/-- The pieces between spaces, behind acc. -/
def splitAcc : List UInt8 → List UInt8 → List (List UInt8)
  | acc, [] => [acc]
  | acc, c :: r => if c = 32 then acc :: splitAcc [] r else splitAcc (acc ++ [c]) r

theorem splitAcc_none : ∀ (l acc : List UInt8), 32 ∉ l → splitAcc acc l = [acc ++ l]
  | [], acc, _ => by simp [splitAcc]
  | c :: r, acc, h => by
    have hc : ¬ c = 32 := fun e => h (by simp [e])
    rw [splitAcc, if_neg hc, splitAcc_none r _ (fun e => h (by simp [e]))]
    simp
theorem splitAcc_some : ∀ (w acc r : List UInt8), 32 ∉ w → splitAcc acc (w ++ 32 :: r) = (acc ++ w) :: splitAcc [] r
  | [], acc, r, _ => by simp [splitAcc]
  | c :: w, acc, r, h => by
    have hc : ¬ c = 32 := fun e => h (by simp [e])
    rw [List.cons_append, splitAcc, if_neg hc, splitAcc_some w _ r (fun e => h (by simp [e]))]
    simp

theorem index_none : ∀ (l : List UInt8) (c : UInt8), Lib.indexByte l c = -1 → c ∉ l
  | [], c, _ => by simp
  | b :: l, c, h => by
    have hge := Lib.indexByte_ge l c
    rw [Lib.indexByte] at h
    split at h
    · cases h
    · rename_i hb
      split at h
      · rename_i h1
        have := index_none l c (by simpa using h1)
        simp only [List.mem_cons, not_or]
        exact ⟨fun e => hb (by simp [e]), this⟩
      · rename_i h1
        have : ¬ Lib.indexByte l c = -1 := by simpa using h1
        omega
theorem index_some : ∀ (l : List UInt8) (c : UInt8) (i : Nat), Lib.indexByte l c = i → ∃ w r, l = w ++ c :: r ∧ w.length = i ∧ c ∉ w
  | [], c, i, h => by rw [Lib.indexByte] at h; omega
  | b :: l, c, i, h => by
    have hge := Lib.indexByte_ge l c
    rw [Lib.indexByte] at h
    split at h
    · rename_i hb
      have e : b = c := by simpa using hb
      subst e
      exact ⟨[], l, rfl, by simp; omega, by simp⟩
    · rename_i hb
      split at h
      · omega
      · rename_i h1
        have h2 : ¬ Lib.indexByte l c = -1 := by simpa using h1
        obtain ⟨w, r, e, hl, hn⟩ := index_some l c (i - 1) (by omega)
        refine ⟨b :: w, r, by rw [e]; rfl, by simp; omega, ?_⟩
        simp only [List.mem_cons, not_or]
        exact ⟨fun e => hb (by simp [e]), hn⟩

abbrev spB : ByteArray := ⟨#[32]⟩
theorem split_eq : ∀ (n : Nat) (s : ByteArray), s.size ≤ n → Lib.splitB spB 0 (Lib.countB s spB) s = (splitAcc [] s.data.toList).map bs
  | n, s, hn => by
    have hix : Lib.indexB s spB = Lib.indexByte s.data.toList 32 := Lib.index_one _ _
    rcases Lib.indexB_cases s spB with h | ⟨i, h, hi⟩
    · rw [Lib.splitB_miss _ _ _ _ h, splitAcc_none _ _ (index_none _ _ (by rw [← hix]; exact h))]
      simp only [List.nil_append, List.map_cons, List.map_nil, bs_data]
    · have hc := Lib.countB_hit s spB i (by decide) h
      obtain ⟨w, r, e, hl, hw⟩ := index_some _ _ i (by rw [← hix]; exact h)
      rw [hc, Nat.add_comm, Lib.splitB_hit _ _ _ _ i h]
      have hlen : s.data.toList.length = s.size := rfl
      have e1 : (s.extract (i + spB.size) s.size).data.toList = r := by
        rw [Lib.extract_data, e]
        rw [e] at hlen
        simp only [List.length_append, List.length_cons] at hlen
        show List.take (s.size - (i + 1)) (List.drop (i + 1) (w ++ 32 :: r)) = r
        have h4 : List.drop (i + 1) (w ++ 32 :: r) = r := by
          rw [← hl, show w ++ 32 :: r = (w ++ [32]) ++ r by simp]
          exact List.drop_left' (by simp)
        rw [h4]
        exact List.take_of_length_le (by omega)
      have e2 : s.extract 0 (i + 0) = bs w := by
        rw [← bs_data (s.extract 0 (i + 0)), Lib.extract_data, e]
        congr 1
        simp [← hl]
      cases n with
      | zero => rw [show s.size = 0 by omega] at hlen; rw [e] at hlen; simp at hlen
      | succ n =>
        rw [split_eq n _ (by
          have : (s.extract (i + spB.size) s.size).data.toList.length = r.length := by rw [e1]
          have h3 : (s.extract (i + spB.size) s.size).size = r.length := this
          rw [h3]
          rw [e] at hlen
          simp at hlen
          omega), e1, e2, e, splitAcc_some w [] r hw]
        rfl
end Go.Proofs.YtbabdjhikamkoaaDoor

namespace Go.Proofs.YtbabdjhikamkoaaDoor
set_option linter.unusedSimpArgs false
set_option linter.unusedVariables false
open Go Go.Abs
variable {q : Gl}

def prt (c : UInt8) : Bool := decide (32 ≤ c.toNat) && decide (c.toNat ≤ 126)
def wordsS (l : List UInt8) : Option (List (List UInt8)) :=
  if l.all prt then (if l.isEmpty then some [] else if (splitAcc [] l).any List.isEmpty then none else some (splitAcc [] l)) else none
def wordsT (l : List UInt8) : T := match wordsS l with
  | none => .tu [nilS, iv 8]
  | some ws => .tu [treeS eStr (ws.map bs), iv 0]

theorem prt_int (c : UInt8) : prt c = !(decide ((c.toNat : Int) < 32) || decide (126 < (c.toNat : Int))) := by
  have e1 : decide ((c.toNat : Int) < 32) = !decide (32 ≤ c.toNat) := by
    by_cases h : 32 ≤ c.toNat
    · rw [decide_eq_true h, decide_eq_false (by omega)]; rfl
    · rw [decide_eq_false h, decide_eq_true (by omega)]; rfl
  have e2 : decide (126 < (c.toNat : Int)) = !decide (c.toNat ≤ 126) := by
    by_cases h : c.toNat ≤ 126
    · rw [decide_eq_true h, decide_eq_false (by omega)]; rfl
    · rw [decide_eq_false h, decide_eq_true (by omega)]; rfl
  rw [e1, e2, prt]
  cases decide (32 ≤ c.toNat) <;> cases decide (c.toNat ≤ 126) <;> rfl

noncomputable def tbWs : Tbl := [(38, gSplit)]
theorem ctxWs : Ctx Tryd.prog (G q) (orc tbWs) := (TblOK.cons hSplit .nil).ctx mixed
def SWs0 (s : ByteArray) : AState := ⟨[(0, .t (sv s))], [], 0, 38⟩
def SWs1 (s : ByteArray) (j : Nat) : AState := ⟨[(4, .t (iv (j : Int))), (0, .t (sv s))], [], 0, 38⟩
def SWs2 (ws : List ByteArray) (j : Nat) : AState := ⟨[(30, .t (iv (j : Int))), (29, .t (iv (ws.length : Int))), (28, .t (slT eStr ws)), (5, .t (slT eStr ws))], [], 0, 38⟩
def OkP (s : ByteArray) (j : Nat) : Prop := j ≤ s.size ∧ ∀ (i : Nat) c, i < j → s.data.toList[i]? = some c → prt c = true
def OkE (ws : List ByteArray) (j : Nat) : Prop := j ≤ ws.length ∧ ∀ (i : Nat) w, i < j → ws[i]? = some w → w.data.toList.isEmpty = false
def AllP (l : List UInt8) : Prop := l.all prt = true
def AllE (ws : List ByteArray) : Prop := OkE ws ws.length

theorem words_call (s : ByteArray) (hs : s.size ≤ 4294967280) : CallT Tryd.prog (G q) 21 [sv s] (· = wordsT s.data.toList) := by
  refine k_text_Words.call rfl ?_
  unfold M_text_Words
  obtain ⟨l, hl⟩ : ∃ l, l = s.data.toList := ⟨_, rfl⟩
  have hlen : l.length = s.size := by rw [hl]; rfl
  rw [← hl]
  have es : (s.toList == []) = l.isEmpty := by rw [stl, ← hl, beq_nil]
  refine mc_seq_runs ctxWs ?_
  simp -implicitDefEqProofs
  refine mc_seq_runs ctxWs ?_
  cases he : l.isEmpty with
  | true =>
    have hl0 : l = [] := by simpa using he
    simp -implicitDefEqProofs [stl_mk, es, he]
    simp -implicitDefEqProofs [hl0, wordsT, wordsS, treeS]
  | false =>
  simp -implicitDefEqProofs [stl_mk, es, he]
  have bad : (l.all prt) = false → wordsT l = .tu [nilS, iv 8] := by
    intro h; simp [wordsT, wordsS, h]
  refine mc_cut (α := Unit) (fun _ => SWs0 s) (fun _ => AllP l) (fun _ => rfl) ?_ ?_
  · refine mc_seq_runs ctxWs ?_
    simp -implicitDefEqProofs
    refine mc_block ?_
    refine mc_while (SWs1 s) (fun j => s.size - j) (OkP s) 0 (fun _ => rfl) ⟨Nat.zero_le _, fun i c h => by omega⟩ ?_ rfl ?_
    · refine sub_forget rfl rfl ?_ ?_ <;> simp -implicitDefEqProofs [SWs1]
    · rintro j ⟨hj, hok⟩
      refine mc_runs ctxWs ?_
      by_cases hlt : j < s.size
      · obtain ⟨x, hx⟩ : ∃ x, s.data.toList[j]? = some x := ⟨_, List.getElem?_eq_getElem hlt⟩
        have ixj := index_str s j x hx
        have e1 : IntKind.i64.wrap ((j : Int) + 1) = ((j + 1 : Nat) : Int) := wrap_nat (by omega) (by omega)
        have hk := prt_int x
        have hb : prt x = false → wordsT l = .tu [nilS, iv 8] := by
          intro h
          refine bad ?_
          rw [List.all_eq_false]
          exact ⟨x, by rw [hl]; exact List.mem_of_getElem? hx, by rw [h]; simp⟩
        cases t1 : decide ((x.toNat : Int) < 32) with
        | true => rw [t1] at hk; simp -implicitDefEqProofs [SWs1, hlt, ixj, t1, hb hk]
        | false =>
          cases t2 : decide (126 < (x.toNat : Int)) with
          | true => rw [t1, t2] at hk; simp -implicitDefEqProofs [SWs1, hlt, ixj, t1, t2, hb hk]
          | false =>
            rw [t1, t2] at hk
            simp -implicitDefEqProofs [SWs1, hlt, ixj, t1, t2, e1]
            refine Abs.Next.mk (j + 1) ⟨⟨hlt, fun i y hi hy => ?_⟩, by omega⟩ (sub_forget rfl rfl (by simp -implicitDefEqProofs [SWs1]) (by simp -implicitDefEqProofs [SWs1]))
            by_cases e : i = j
            · subst e; rw [hx] at hy; injection hy with hy; subst hy; exact hk
            · exact hok i y (by omega) hy
      · have e : j = s.size := by omega
        subst e
        simp -implicitDefEqProofs [SWs1]
        refine Abs.Next.mk () ?_ (sub_forget rfl rfl (by simp -implicitDefEqProofs [SWs0]) (by simp -implicitDefEqProofs [SWs0]))
        show l.all prt = true
        rw [List.all_eq_true, hl]
        intro x hx
        obtain ⟨i, hi, e⟩ := List.getElem_of_mem hx
        exact hok i x hi (by rw [List.getElem?_eq_getElem hi, e])
  rintro _ hall
  have hall : l.all prt = true := hall
  obtain ⟨ws, hws⟩ : ∃ ws, ws = (splitAcc [] l).map bs := ⟨_, rfl⟩
  have q1 : gSplit [.v (.string s), .v (.string ⟨#[32]⟩)] = some (slT eStr ws) := by
    rw [gSplit, g2_eq (τ := tStr) (σ := tStr) (x := s) (y := ⟨#[32]⟩) rfl rfl, if_pos ⟨by omega, by decide⟩, split_eq s.size s (Nat.le_refl _), hws, hl]
  have hlw : lenslM (.t (slT eStr ws)) = some (.t (iv (ws.length : Int))) := (IsS.mk (e := eStr) ws).len
  have hwl : ws.length ≤ 4294967281 := by
    have h1 := Lib.splitB_all spB (by decide) 0 _ s rfl
    rw [split_eq s.size s (Nat.le_refl _), ← hl, ← hws] at h1
    have h2 := Lib.countB_le spB (by decide) s.size s (Nat.le_refl _)
    omega
  refine mc_seq_runs ctxWs ?_
  simp -implicitDefEqProofs [SWs0, tbWs, q1]
  refine mc_cut (α := Unit) (fun _ => SWs2 ws ws.length) (fun _ => AllE ws) (fun _ => rfl) ?_ ?_
  · refine mc_seq_runs ctxWs ?_
    simp -implicitDefEqProofs [hlw]
    refine mc_block ?_
    refine mc_while (SWs2 ws) (fun j => ws.length - j) (OkE ws) 0 (fun _ => rfl) ⟨Nat.zero_le _, fun i c h => by omega⟩ ?_ rfl ?_
    · refine sub_forget rfl rfl ?_ ?_ <;> simp -implicitDefEqProofs [SWs2]
    · rintro j ⟨hj, hok⟩
      refine mc_runs ctxWs ?_
      by_cases hlt : j < ws.length
      · obtain ⟨x, hx⟩ : ∃ x, ws[j]? = some x := ⟨_, List.getElem?_eq_getElem hlt⟩
        have ia := (IsS.mk (e := eStr) ws).iaddr hx .i64
        have e1 : IntKind.i64.wrap ((j : Int) + 1) = ((j + 1 : Nat) : Int) := wrap_nat (by omega) (by omega)
        have ld : loadM false 1 [] (.t (.pt (eStr.enc x ++ rest eStr ws j))) = some (.t (sv x)) := rfl
        have ia' : iaddrM 1 (.t (slT eStr ws)) (.t (iv (j : Int))) = some (.t (.pt (eStr.enc x ++ rest eStr ws j))) := ia
        have ex : (x.toList == []) = x.data.toList.isEmpty := by rw [stl, beq_nil]
        cases hxe : x.data.toList.isEmpty with
        | true =>
          have hw : wordsT l = .tu [nilS, iv 8] := by
            have : (splitAcc [] l).any List.isEmpty = true := by
              rw [List.any_eq_true]
              have hx' := hx
              rw [hws, List.getElem?_map] at hx'
              obtain ⟨y, hy, e⟩ := Option.map_eq_some_iff.1 hx'
              refine ⟨y, List.mem_of_getElem? hy, ?_⟩
              have : x.data.toList = y := by rw [← e]
              rw [← this]; exact hxe
            simp [wordsT, wordsS, hall, he, this]
          rw [hxe] at ex
          simp -implicitDefEqProofs [SWs2, hlt, ia', ld, stl_mk, ex, hw]
        | false =>
          rw [hxe] at ex
          simp -implicitDefEqProofs [SWs2, hlt, ia', ld, stl_mk, ex, e1]
          refine Abs.Next.mk (j + 1) ⟨⟨hlt, fun i y hi hy => ?_⟩, by omega⟩ (sub_forget rfl rfl (by simp -implicitDefEqProofs [SWs2]) (by simp -implicitDefEqProofs [SWs2]))
          by_cases e : i = j
          · subst e; rw [hx] at hy; injection hy with hy; subst hy; exact hxe
          · exact hok i y (by omega) hy
      · have e : j = ws.length := by omega
        subst e
        simp -implicitDefEqProofs [SWs2]
        exact Abs.Next.mk () ⟨hj, hok⟩ (sub_forget rfl rfl (by simp -implicitDefEqProofs [SWs2]) (by simp -implicitDefEqProofs [SWs2]))
  rintro _ hne
  refine mc_runs ctxWs ?_
  have hw : wordsT l = .tu [slT eStr ws, iv 0] := by
    have h1 : (splitAcc [] l).any List.isEmpty = false := by
      rw [List.any_eq_false]
      intro y hy
      obtain ⟨i, hi, e⟩ := List.getElem_of_mem hy
      have h2 : ws[i]? = some (bs y) := by rw [hws, List.getElem?_map, List.getElem?_eq_getElem hi, e]; rfl
      have h3 := hne.2 i (bs y) ((List.getElem?_eq_some_iff.1 h2).1) h2
      have h4 : y.isEmpty = false := by simpa using h3
      simp [h4]
    have h2 : treeS eStr ws = slT eStr ws := by
      cases hw : ws with
      | nil =>
        rw [hws] at hw
        have : splitAcc [] l = [] := by simpa using hw
        cases l with
        | nil => cases this
        | cons c r =>
          have nn : ∀ (r acc : List UInt8), splitAcc acc r ≠ [] := by
            intro r
            induction r with
            | nil => intro acc h; cases h
            | cons c r ih =>
              intro acc h
              rw [splitAcc] at h
              split at h
              · cases h
              · exact ih _ h
          exact absurd this (nn _ _)
      | cons _ _ => rfl
    simp [wordsT, wordsS, hall, he, h1, ← hws, h2]
  simp -implicitDefEqProofs [SWs2, hw]
end Go.Proofs.YtbabdjhikamkoaaDoor

namespace Go.Proofs.YtbabdjhikamkoaaDoor
set_option linter.unusedSimpArgs false
set_option linter.unusedVariables false
open Go Go.Abs
variable {q : Gl}

theorem toT_tu2 {α : Type} {e : Enc α} {ty : Nat} {H : Heap} {b : Nat} {l : List α} (h : RowAt e ty H b l) (y : T) :
    toT H (oneOf [rowP e b l, .t y]) = some (.tu [treeS e l, y], lentS b l) := by
  have ht := h.toT
  cases l with
  | nil => rfl
  | cons x r =>
    show toT H (.tu [rowP e b (x :: r), .t y]) = _
    simp only [toT, toTs, ht, Option.map_some, List.append_nil]

structure RW where
  j : Nat
  out : List (List UInt8)
  w : List UInt8

def SRw (s : ByteArray) (a : RW) : AState := ⟨[(6, .t (iv (a.j : Int))), (5, .t (sv (bs a.w))), (4, rowP eStr 0 (a.out.map bs)), (0, .t (sv s))], rowH eStr 9 0 (a.out.map bs), 1, 57⟩
structure OkRw (l : List UInt8) (a : RW) : Prop where
  le : a.j ≤ l.length
  prt : ∀ (i : Nat) c, i < a.j → l[i]? = some c → prt c = true
  eq : a.out ++ splitAcc a.w (l.drop a.j) = splitAcc [] l
  ne : ∀ x ∈ a.out, x.isEmpty = false
  wl : a.w.length ≤ a.j
  ol : a.out.length ≤ a.j
  em : a.w = [] → a.j = 0 ∨ a.j < l.length

theorem words_bad {l : List UInt8} (h : l.all prt = false) : wordsT l = .tu [nilS, iv 8] := by simp [wordsT, wordsS, h]
theorem words_empty {l : List UInt8} (h0 : l ≠ []) (h : [] ∈ splitAcc [] l) : wordsT l = .tu [nilS, iv 8] := by
  have h1 : (splitAcc [] l).any List.isEmpty = true := List.any_eq_true.2 ⟨[], h, rfl⟩
  have h2 : l.isEmpty = false := by cases l with | nil => exact absurd rfl h0 | cons _ _ => rfl
  cases h3 : l.all prt with
  | false => exact words_bad h3
  | true => simp [wordsT, wordsS, h1, h2, h3]

theorem slstr_nat (s : ByteArray) (i j : Nat) (h1 : i ≤ j) (h2 : j ≤ s.size) : slstrM (.t (sv s)) (some (.t (iv (i : Int)))) (some (.t (iv (j : Int)))) = some (.t (sv (s.extract i j))) := by
  have a1 : ¬ (i : Int) < 0 := by omega
  have a2 : ¬ (j : Int) < 0 := by omega
  simp [slstrM, boundV, h1, h2]
theorem slstr_from (s : ByteArray) (i : Nat) (h1 : i ≤ s.size) : slstrM (.t (sv s)) (some (.t (iv (i : Int)))) none = some (.t (sv (s.extract i s.size))) := by
  have a1 : ¬ (i : Int) < 0 := by omega
  simp [slstrM, boundV, h1]
theorem slstr_to (s : ByteArray) (j : Nat) (h2 : j ≤ s.size) : slstrM (.t (sv s)) none (some (.t (iv (j : Int)))) = some (.t (sv (s.extract 0 j))) := by
  have a2 : ¬ (j : Int) < 0 := by omega
  simp [slstrM, boundV, h2]

theorem rwords_call (s : ByteArray) (hs : s.size ≤ 2000) : CallT Tryd.prog (G q) 22 [sv s] (· = wordsT s.data.toList) := by
  refine k_r01_Words.call rfl ?_
  unfold M_r01_Words
  obtain ⟨l, hl⟩ : ∃ l, l = s.data.toList := ⟨_, rfl⟩
  have hlen : l.length = s.size := by rw [hl]; rfl
  rw [← hl]
  refine mc_seq_runs ctx0 ?_
  simp -implicitDefEqProofs
  refine mc_seq_runs ctx0 ?_
  simp -implicitDefEqProofs
  refine mc_seq_runs ctx0 ?_
  simp -implicitDefEqProofs
  refine mc_cut (α := RW) (SRw s) (fun a => OkRw l a ∧ a.j = s.size) (fun _ => rfl) ?_ ?_
  · refine mc_seq_runs ctx0 ?_
    simp -implicitDefEqProofs
    refine mc_block ?_
    refine mc_while (SRw s) (fun a => s.size - a.j) (OkRw l) ⟨0, [], []⟩ (fun _ => rfl) ⟨Nat.zero_le _, fun i c h => by simp at h, by simp, by simp, by simp, by simp, fun _ => .inl rfl⟩ ?_ rfl ?_
    · exact sub_row0 (by omega) (by simp -implicitDefEqProofs [SRw, under, rowP])
    · rintro ⟨j, out, w⟩ hok
      have hok' := hok
      obtain ⟨hj, hp, heq, hne, hwl, hol, hem⟩ := hok
      simp only at hj hp heq hne hwl hol hem
      refine mc_runs ctx0 ?_
      have r0 : RowAt eStr 9 (rowH eStr 9 0 (out.map bs)) 0 (out.map bs) := RowAt.head' _ _ _ _
      by_cases hlt : j < s.size
      · obtain ⟨x, hx⟩ : ∃ x, l[j]? = some x := ⟨_, List.getElem?_eq_getElem (by omega)⟩
        have ixj := index_str s j x (by rw [← hl]; exact hx)
        have e1 : IntKind.i64.wrap ((j : Int) + 1) = ((j + 1 : Nat) : Int) := wrap_nat (by omega) (by omega)
        have hk := prt_int x
        have hdrop : l.drop j = x :: l.drop (j + 1) := by
          have := List.drop_eq_getElem_cons (l := l) (i := j) (by omega)
          rw [this, (List.getElem?_eq_some_iff.1 hx).2]
        have hb : prt x = false → wordsT l = .tu [nilS, iv 8] := fun h => words_bad (List.all_eq_false.2 ⟨x, List.mem_of_getElem? hx, by rw [h]; simp⟩)
        have h0 : l ≠ [] := by intro e; rw [e] at hx; simp at hx
        have hp' : prt x = true → ∀ (i : Nat) c, i < j + 1 → l[i]? = some c → prt c = true := by
          intro h i c hi hc
          by_cases e : i = j
          · subst e; rw [hx] at hc; injection hc with hc; subst hc; exact h
          · exact hp i c (by omega) hc
        cases t1 : decide ((x.toNat : Int) < 32) with
        | true => rw [t1] at hk; simp -implicitDefEqProofs [SRw, hlt, ixj, t1, hb hk]
        | false =>
          cases t2 : decide (126 < (x.toNat : Int)) with
          | true => rw [t1, t2] at hk; simp -implicitDefEqProofs [SRw, hlt, ixj, t1, t2, hb hk]
          | false =>
            rw [t1, t2] at hk
            by_cases hsp : x = 32
            · have t3 : ((x.toNat : Int) != 32) = false := by rw [hsp]; rfl
              have hsl : splitAcc w (l.drop j) = w :: splitAcc [] (l.drop (j + 1)) := by rw [hdrop, splitAcc, if_pos hsp]
              rw [hsl] at heq
              cases hw : w.isEmpty with
              | true =>
                have hw0 : w = [] := by simpa using hw
                have hb2 := words_empty h0 (by rw [← heq, hw0]; simp)
                simp -implicitDefEqProofs [SRw, hlt, ixj, t1, t2, t3, stl_mk, beq_nil, hw, hb2]
              | false =>
                by_cases hlast : j = s.size - 1
                · have t4 : ((j : Int) == (s.size : Int) - 1) = true := by rw [beq_iff_eq]; omega
                  have e2 : IntKind.i64.wrap ((s.size : Int) - 1) = (s.size : Int) - 1 := wrap_i64 (by omega) (by omega)
                  have hd0 : l.drop (j + 1) = [] := List.drop_eq_nil_of_le (by omega)
                  have hb2 := words_empty h0 (by rw [← heq, hd0]; simp [splitAcc])
                  simp -implicitDefEqProofs [SRw, hlt, ixj, t1, t2, t3, stl_mk, beq_nil, hw, e2, t4, hb2]
                · have t4 : ((j : Int) == (s.size : Int) - 1) = false := by rw [beq_eq_false_iff_ne]; omega
                  have e2 : IntKind.i64.wrap ((s.size : Int) - 1) = (s.size : Int) - 1 := wrap_i64 (by omega) (by omega)
                  have hbs : bsliceM 9 1 [.string ⟨#[]⟩] 1 [(0, .t (sv (bs w)))] 1 = some (.row 1 0 1 1, .cells 9 [.t (sv (bs w))]) := rfl
                  obtain ⟨b2, H2, n2, ap2, r2, ne2, _⟩ := app_some (e := eStr) (ty := 9) (by' := 16) (nx := 2) (m := [bs w]) (r0.cons (k := 1) (r := .cells 9 [.t (sv (bs w))]) (by omega)) (src_one (b := 1) (ty := 9) _ (by simp [eStr])) (by simp; omega) (by simp; omega)
                  have ap2' : appM 9 1 16 ((1, .cells 9 [.t (sv (bs w))]) :: rowH eStr 9 0 (out.map bs)) 2 (rowP eStr 0 (out.map bs)) (.row 1 0 1 1) = some (rowP eStr b2 (out.map bs ++ [bs w]), H2, n2) := ap2
                  simp -implicitDefEqProofs [SRw, hlt, ixj, t1, t2, t3, stl_mk, beq_nil, hw, e2, t4, hbs, ap2', e1]
                  refine Abs.Next.mk ⟨j + 1, out ++ [w], []⟩ ⟨⟨by show j + 1 ≤ l.length; omega, hp' hk, ?_, ?_, by simp, by simp; omega, fun _ => .inr (by show j + 1 < l.length; omega)⟩, by show s.size - (j + 1) < s.size - j; omega⟩ ?_
                  · show (out ++ [w]) ++ splitAcc [] (l.drop (j + 1)) = _
                    rw [← heq]; simp
                  · intro y hy
                    rcases List.mem_append.1 hy with h | h
                    · exact hne y h
                    · have : y = w := by simpa using h
                      rw [this]; exact hw
                  · unfold SRw
                    simp only [List.map_append, List.map_cons, List.map_nil]
                    exact sub_row1 (k := b2) r2 (by omega) (by omega) (by simp -implicitDefEqProofs [ren_rowP, under_rowP, ren, under])
            · have t3 : ((x.toNat : Int) != 32) = true := by
                rw [bne_iff_ne]
                intro e
                exact hsp (UInt8.toNat_inj.1 (by show x.toNat = 32; omega))
              have hsl : splitAcc w (l.drop j) = splitAcc (w ++ [x]) (l.drop (j + 1)) := by rw [hdrop, splitAcc, if_neg hsp]
              obtain ⟨j1, hj1⟩ : ∃ j1, j1 = j + 1 := ⟨_, rfl⟩
              have e1' : IntKind.i64.wrap ((j : Int) + 1) = (j1 : Int) := by rw [e1, hj1]
              have hst : slstrM (.t (sv s)) (some (.t (iv (j : Int)))) (some (.t (iv (j1 : Int)))) = some (.t (sv (bs [x]))) := by
                rw [slstr_nat s j j1 (by omega) (by omega)]
                have e3 : s.extract j j1 = bs [x] := by
                  rw [← bs_data (s.extract j j1), Lib.extract_data, ← hl, hdrop, hj1]
                  simp
                rw [e3]
              have sa := cat (Φ := orc []) (a := w) (b := [x]) (by simp; omega)
              simp -implicitDefEqProofs [SRw, hlt, ixj, t1, t2, t3, e1', hst, sa]
              subst hj1
              refine Abs.Next.mk ⟨j + 1, out, w ++ [x]⟩ ⟨⟨by show j + 1 ≤ l.length; omega, hp' hk, ?_, hne, by simp; omega, by show out.length ≤ j + 1; omega, fun h => by simp at h⟩, by show s.size - (j + 1) < s.size - j; omega⟩ ?_
              · show out ++ splitAcc (w ++ [x]) (l.drop (j + 1)) = _
                rw [← hsl]; exact heq
              · unfold SRw
                exact sub_row1 (k := 0) r0 (by omega) (by omega) (by simp -implicitDefEqProofs [ren_rowP, under_rowP, ren, under])
      · have e : j = s.size := by omega
        subst e
        simp -implicitDefEqProofs [SRw]
        refine Abs.Next.mk ⟨s.size, out, w⟩ ⟨hok', rfl⟩ ?_
        exact sub_row1 (k := 0) r0 (by omega) (by omega) (by simp -implicitDefEqProofs [ren_rowP, under_rowP, ren, under])
  rintro ⟨j, out, w⟩ ⟨hok, hje⟩
  simp only at hje
  subst hje
  obtain ⟨_, hp, heq, hne, hwl, hol, hem⟩ := hok
  simp only at hp heq hne hwl hol hem
  have hd0 : l.drop s.size = [] := List.drop_eq_nil_of_le (by omega)
  rw [hd0, splitAcc] at heq
  have r0 : RowAt eStr 9 (rowH eStr 9 0 (out.map bs)) 0 (out.map bs) := RowAt.head' _ _ _ _
  have hall : l.all prt = true := by
    rw [List.all_eq_true]
    intro x hx
    obtain ⟨i, hi, e⟩ := List.getElem_of_mem hx
    exact hp i x (by omega) (by rw [List.getElem?_eq_getElem hi, e])
  refine mc_runs ctx0 ?_
  cases hw : w.isEmpty with
  | true =>
    have hw0 : w = [] := by simpa using hw
    have hl0 : l = [] := by
      rcases hem hw0 with h | h
      · exact List.eq_nil_of_length_eq_zero (by omega)
      · omega
    have ho : out = [] := by
      rw [hl0, hw0] at heq
      have : out ++ [[]] = [] ++ [[]] := heq
      exact List.append_cancel_right this
    simp -implicitDefEqProofs [SRw, stl_mk, beq_nil, hw, ho, hl0, rowP, wordsT, wordsS, treeS]
  | false =>
    have hbs : bsliceM 9 1 [.string ⟨#[]⟩] 1 [(0, .t (sv (bs w)))] 1 = some (.row 1 0 1 1, .cells 9 [.t (sv (bs w))]) := rfl
    obtain ⟨b2, H2, n2, ap2, r2, ne2, _⟩ := app_some (e := eStr) (ty := 9) (by' := 16) (nx := 2) (m := [bs w]) (r0.cons (k := 1) (r := .cells 9 [.t (sv (bs w))]) (by omega)) (src_one (b := 1) (ty := 9) _ (by simp [eStr])) (by simp; omega) (by simp; omega)
    have ap2' : appM 9 1 16 ((1, .cells 9 [.t (sv (bs w))]) :: rowH eStr 9 0 (out.map bs)) 2 (rowP eStr 0 (out.map bs)) (.row 1 0 1 1) = some (rowP eStr b2 (out.map bs ++ [bs w]), H2, n2) := ap2
    have hl0 : l.isEmpty = false := by
      cases l with
      | nil =>
        have : out ++ [w] = [] ++ [[]] := heq
        have := (List.append_inj' this rfl).2
        injection this with this
        rw [this] at hw; cases hw
      | cons _ _ => rfl
    have hany : (splitAcc [] l).any List.isEmpty = false := by
      rw [← heq, List.any_eq_false]
      intro y hy
      rcases List.mem_append.1 hy with h | h
      · rw [hne y h]; simp
      · have : y = w := by simpa using h
        rw [this, hw]; simp
    have hwt : wordsT l = .tu [treeS eStr (out.map bs ++ [bs w]), iv 0] := by
      unfold wordsT wordsS
      rw [hall, hl0, hany]
      simp [← heq]
    have ht := toT_tu2 r2 (iv 0)
    simp -implicitDefEqProofs [SRw, stl_mk, beq_nil, hw, hbs, ap2', hwt, -oneOf, ht]
end Go.Proofs.YtbabdjhikamkoaaDoor

namespace Go.Proofs.YtbabdjhikamkoaaDoor
set_option linter.unusedSimpArgs false
set_option linter.unusedVariables false
open Go Go.Abs
variable {q : Gl}

/-- The scanner's cells. -/
abbrev scc (s : ByteArray) (a l : Nat) : List T := [sv s, iv (a : Int), iv (l : Int)]
abbrev scr (s : ByteArray) (a l : Nat) : Row := .cells 55 [.t (sv s), .t (iv (a : Int)), .t (iv (l : Int))]

section
variable (s : ByteArray) (a l x : Nat)
theorem sl0 (R : Heap) : loadM false 1 ((0, scr s a l) :: R) (.ptr 0 0) = some (.t (sv s)) := rfl
theorem sl1 (R : Heap) : loadM false 1 ((0, scr s a l) :: R) (.ptr 0 1) = some (.t (iv (a : Int))) := rfl
theorem sl2 (R : Heap) : loadM false 1 ((0, scr s a l) :: R) (.ptr 0 2) = some (.t (iv (l : Int))) := rfl
theorem ss1 (R : Heap) : storeM 1 ((0, scr s a l) :: R) (.ptr 0 1) (.t (iv (x : Int))) = some ((0, scr s x l) :: R) := rfl
theorem ss2 (R : Heap) : storeM 1 ((0, scr s a l) :: R) (.ptr 0 2) (.t (iv (x : Int))) = some ((0, scr s a x) :: R) := rfl
theorem tl0 (t : Row) : loadM false 1 [(1, t), (0, scr s a l)] (.ptr 0 0) = some (.t (sv s)) := rfl
theorem tl1 (t : Row) : loadM false 1 [(1, t), (0, scr s a l)] (.ptr 0 1) = some (.t (iv (a : Int))) := rfl
theorem tl2 (t : Row) : loadM false 1 [(1, t), (0, scr s a l)] (.ptr 0 2) = some (.t (iv (l : Int))) := rfl
theorem ts1 (t : Row) : storeM 1 [(1, t), (0, scr s a l)] (.ptr 0 1) (.t (iv (x : Int))) = some [(1, t), (0, scr s x l)] := rfl
end

def runN (big : Bool) (l : List UInt8) : Nat := (l.takeWhile (isPart big)).length
theorem runN_le (big : Bool) (l : List UInt8) : runN big l ≤ l.length := (List.takeWhile_sublist _).length_le
theorem tw_lt {p : UInt8 → Bool} : ∀ {l : List UInt8} {j : Nat} {c : UInt8}, j < (l.takeWhile p).length → l[j]? = some c → p c = true
  | [], j, c, h, hc => by simp at hc
  | x :: r, j, c, h, hc => by
    rw [List.takeWhile_cons] at h
    split at h
    · rename_i hx
      cases j with
      | zero => simp at hc; subst hc; exact hx
      | succ j => exact tw_lt (l := r) (by simpa using h) (by simpa using hc)
    · simp at h
theorem tw_eq {p : UInt8 → Bool} : ∀ {l : List UInt8} {c : UInt8}, l[(l.takeWhile p).length]? = some c → p c = false
  | [], c, hc => by simp at hc
  | x :: r, c, hc => by
    rw [List.takeWhile_cons] at hc
    split at hc
    · exact tw_eq (l := r) (by simpa using hc)
    · rename_i hx
      simp at hc; subst hc; simpa using hx

def SRn (big : Bool) (s : ByteArray) (a l p : Nat) : AState := ⟨[(5, .t (iv (a : Int))), (1, .t (fv (letF big))), (0, .ptr 0 0)], [(0, scr s p l)], 1, 76⟩

theorem conv_i32 (c : UInt8) : IntKind.i32.wrap (c.toNat : Int) = (c.toNat : Int) := by
  have := c.toNat_lt
  unfold IntKind.wrap IntKind.bits IntKind.signed
  simp only [Bool.true_and, Nat.reduceSub]
  have e1 : (2 : Int) ^ 32 = 4294967296 := by decide
  have e2 : (2 : Int) ^ 31 = 2147483648 := by decide
  simp only [e1, e2, ge_iff_le, decide_eq_true_eq]
  split <;> omega

theorem letR_nat (big : Bool) (c : UInt8) : letR big (c.toNat : Int) = (if big then isUp c else isLow c) := by
  unfold letR; cases big
  · exact rlow_nat c
  · exact rup_nat c
theorem isPart_eq (big : Bool) (x : UInt8) : isPart big x = ((if big then isUp x else isLow x) || isDig x || decide (x.toNat = 45)) := by
  cases big <;> simp only [isPart, Bool.not_true, Bool.not_false, Bool.true_and, Bool.false_and, Bool.or_false, if_true, Bool.false_eq_true, if_false]
  · cases isDig x <;> cases decide (x.toNat = 45) <;> cases isLow x <;> rfl
  · cases isDig x <;> cases decide (x.toNat = 45) <;> cases isUp x <;> rfl

def InR (a n p : Nat) : Prop := a ≤ p ∧ p ≤ a + n

set_option maxHeartbeats 2000000 in
theorem run_call (big : Bool) (s : ByteArray) (a l : Nat) (hs : s.size ≤ 65536) (ha : a ≤ s.size) :
    CallP Tryd.prog (G q) 79 [.ptr 0 0, .t (fv (letF big))] [(0, scr s a l)] 1 (.t (sv (bs ((s.data.toList.drop a).take (runN big (s.data.toList.drop a)))))) [(0, scr s (a + runN big (s.data.toList.drop a)) l)] 1 := by
  obtain ⟨n, hn⟩ : ∃ n, n = runN big (s.data.toList.drop a) := ⟨_, rfl⟩
  have hlen : s.data.toList.length = s.size := rfl
  have hnl : a + n ≤ s.size := by
    have := runN_le big (s.data.toList.drop a)
    rw [← hn, List.length_drop] at this
    omega
  rw [← hn]
  obtain ⟨z, hz⟩ : ∃ z, z = a + n := ⟨_, rfl⟩
  rw [← hz]
  refine k_text_scanner_run.callP rfl ?_
  unfold M_text_scanner_run
  refine mc_seq_runs (ctxF big) ?_
  simp -implicitDefEqProofs
  refine mc_seq_runs (ctxF big) ?_
  simp -implicitDefEqProofs [sl1]
  refine mc_cut (α := Unit) (fun _ => SRn big s a l z) (fun _ => True) (fun _ => rfl) ?_ ?_
  · refine mc_block ?_
    refine mc_while (SRn big s a l) (fun p => z - p) (InR a n) a (fun _ => rfl) ⟨Nat.le_refl _, by omega⟩ ?_ rfl ?_
    · refine sub_forget rfl rfl ?_ ?_ <;> simp -implicitDefEqProofs [SRn]
    · rintro p ⟨hp1, hp2⟩
      refine mc_runs (ctxF big) ?_
      by_cases hlt : p < s.size
      · obtain ⟨c, hc⟩ : ∃ c, s.data.toList[p]? = some c := ⟨_, List.getElem?_eq_getElem hlt⟩
        have ix := index_str s p c hc
        have hc' : (s.data.toList.drop a)[p - a]? = some c := by rw [List.getElem?_drop, show a + (p - a) = p by omega]; exact hc
        have cvF := fun H nx c => orcF big H nx c
        have qd := gRune_eq rDig (c.toNat : Int)
        rw [rdig_nat] at qd
        have lr := letR_nat big c
        have hpe := isPart_eq big c
        have hgo : p < a + n → isPart big c = true := fun h => tw_lt (by show p - a < runN big (s.data.toList.drop a); omega) hc'
        have hst : ¬ p < a + n → isPart big c = false := fun h => tw_eq (by
          show (s.data.toList.drop a)[runN big (s.data.toList.drop a)]? = some c
          rw [← hn, show n = p - a by omega]; exact hc')
        have e1 : IntKind.i64.wrap ((p : Int) + 1) = ((p + 1 : Nat) : Int) := wrap_nat (by omega) (by omega)
        have st1 := ss1 s p l (p + 1) []
        have ci := conv_i32 c
        by_cases hpn : p < a + n
        · have hpp := hgo hpn
          rw [hpp] at hpe
          cases hL : (if big then isUp c else isLow c : Bool) with
          | true =>
            rw [hL] at lr
            simp -implicitDefEqProofs [SRn, sl0, sl1, hlt, ix, ci, cvF, lr, e1, st1]
            exact Abs.Next.mk (p + 1) ⟨⟨by omega, by omega⟩, by omega⟩ (sub_forget rfl rfl (by simp -implicitDefEqProofs [SRn]) (by simp -implicitDefEqProofs [SRn, splice]))
          | false =>
            rw [hL] at lr hpe
            cases hD : isDig c with
            | true =>
              rw [hD] at qd
              simp -implicitDefEqProofs [SRn, sl0, sl1, hlt, ix, ci, cvF, lr, tbF, qd, e1, st1]
              exact Abs.Next.mk (p + 1) ⟨⟨by omega, by omega⟩, by omega⟩ (sub_forget rfl rfl (by simp -implicitDefEqProofs [SRn]) (by simp -implicitDefEqProofs [SRn, splice]))
            | false =>
              rw [hD] at qd hpe
              have h45 : c.toNat = 45 := by
                have : decide (c.toNat = 45) = true := by simpa using hpe.symm
                exact of_decide_eq_true this
              have e45 : ((c.toNat : Int) == 45) = true := by rw [h45]; rfl
              simp -implicitDefEqProofs [SRn, sl0, sl1, hlt, ix, ci, cvF, lr, tbF, qd, e45, e1, st1]
              exact Abs.Next.mk (p + 1) ⟨⟨by omega, by omega⟩, by omega⟩ (sub_forget rfl rfl (by simp -implicitDefEqProofs [SRn]) (by simp -implicitDefEqProofs [SRn, splice]))
        · have hpp := hst hpn
          rw [hpp] at hpe
          have hpz : p = z := by omega
          subst hpz
          have hL : (if big then isUp c else isLow c : Bool) = false := by
            cases h : (if big then isUp c else isLow c : Bool) with
            | false => rfl
            | true => rw [h] at hpe; cases hpe
          rw [hL] at lr hpe
          have hD : isDig c = false := by
            cases h : isDig c with
            | false => rfl
            | true => rw [h] at hpe; cases hpe
          rw [hD] at qd hpe
          have e45 : ((c.toNat : Int) == 45) = false := by
            have : decide (c.toNat = 45) = false := by simpa using hpe.symm
            have := of_decide_eq_false this
            rw [beq_eq_false_iff_ne]; omega
          simp -implicitDefEqProofs [SRn, sl0, sl1, hlt, ix, ci, cvF, lr, tbF, qd, e45]
          exact Abs.Next.mk () trivial (sub_forget rfl rfl (by simp -implicitDefEqProofs [SRn]) (by simp -implicitDefEqProofs [SRn, splice]))
      · have hpz : p = z := by omega
        subst hpz
        simp -implicitDefEqProofs [SRn, sl0, sl1, hlt]
        exact Abs.Next.mk () trivial (sub_forget rfl rfl (by simp -implicitDefEqProofs [SRn]) (by simp -implicitDefEqProofs [SRn, splice]))
  rintro _ -
  refine mc_runs (ctxF big) ?_
  have hsl := slstr_nat s a z (by omega) (by omega)
  have e3 : s.extract a z = bs ((s.data.toList.drop a).take n) := by
    rw [← bs_data (s.extract a z), Lib.extract_data, hz, Nat.add_sub_cancel_left]
  rw [e3] at hsl
  simp -implicitDefEqProofs [SRn, sl0, sl1, hsl]
  exact ⟨.inr rfl, _, _, Sub.refl _, rfl, rfl, rfl, rfl⟩
end Go.Proofs.YtbabdjhikamkoaaDoor

namespace Go.Proofs.YtbabdjhikamkoaaDoor
set_option linter.unusedSimpArgs false
set_option linter.unusedVariables false
open Go Go.Abs
variable {q : Gl}

/-- How many bytes are passed, and how many line feeds are among them. -/
def skipS : Bool → List UInt8 → Nat × Nat
  | _, [] => (0, 0)
  | cm, c :: r =>
    if c.toNat = 10 then ((skipS false r).1 + 1, (skipS false r).2 + 1)
    else if cm || decide (c.toNat = 37) then ((skipS true r).1 + 1, (skipS true r).2)
    else if c.toNat = 32 ∨ c.toNat = 9 ∨ c.toNat = 13 then ((skipS false r).1 + 1, (skipS false r).2)
    else (0, 0)
theorem skip_le : ∀ (l : List UInt8) (cm : Bool), (skipS cm l).1 ≤ l.length ∧ (skipS cm l).2 ≤ l.length
  | [], _ => by simp [skipS]
  | c :: r, cm => by
    have h1 := skip_le r false
    have h2 := skip_le r true
    rw [skipS]
    split
    · simp; omega
    · split
      · simp; omega
      · split
        · simp; omega
        · simp

structure Sk where
  p : Nat
  ln : Nat
  cm : Bool
def SSk (s : ByteArray) (a : Sk) : AState := ⟨[(2, .t (bv a.cm)), (0, .ptr 0 0)], [(0, scr s a.p a.ln)], 1, 56⟩
structure OkSk (l : List UInt8) (z zl : Nat) (a : Sk) : Prop where
  le : a.p ≤ l.length
  e1 : a.p + (skipS a.cm (l.drop a.p)).1 = z
  e2 : a.ln + (skipS a.cm (l.drop a.p)).2 = zl

set_option maxHeartbeats 2000000 in
theorem skip_call (s : ByteArray) (a l : Nat) (hs : s.size ≤ 65536) (ha : a ≤ s.size) (hl : l ≤ 1000000) :
    CallP Tryd.prog (G q) 39 [.ptr 0 0] [(0, scr s a l)] 1 (oneOf []) [(0, scr s (a + (skipS false (s.data.toList.drop a)).1) (l + (skipS false (s.data.toList.drop a)).2))] 1 := by
  have hlen : s.data.toList.length = s.size := rfl
  obtain ⟨z, hz⟩ : ∃ z, z = a + (skipS false (s.data.toList.drop a)).1 := ⟨_, rfl⟩
  obtain ⟨zl, hzl⟩ : ∃ z, z = l + (skipS false (s.data.toList.drop a)).2 := ⟨_, rfl⟩
  rw [← hz, ← hzl]
  have hzb : z ≤ s.size ∧ zl ≤ 1000000 + 65536 := by
    have := skip_le (s.data.toList.drop a) false
    rw [List.length_drop] at this
    omega
  refine k_text_scanner_skip.callP rfl ?_
  unfold M_text_scanner_skip
  have fin : ∀ (env : List (Nat × PV)), EndsP Tryd.prog (G q) 1 [] (fun r0 H0 nx0 => r0 = oneOf [] ∧ H0 = [(0, scr s z zl)] ∧ nx0 = 1) .normal ⟨env, [(0, scr s z zl)], 1, 56⟩ := fun env => ⟨.inl rfl, _, [], Sub.refl _, rfl, rfl, rfl, rfl⟩
  have finr : ∀ (env : List (Nat × PV)), EndsP Tryd.prog (G q) 1 [] (fun r0 H0 nx0 => r0 = oneOf [] ∧ H0 = [(0, scr s z zl)] ∧ nx0 = 1) .ret ⟨env, [(0, scr s z zl)], 1, 56⟩ := fun env => ⟨.inr rfl, _, [], Sub.refl _, rfl, rfl, rfl, rfl⟩
  refine mc_seq_runs ctx0 ?_
  simp -implicitDefEqProofs
  refine mc_block ?_
  refine mc_while (SSk s) (fun a => s.size - a.p) (OkSk s.data.toList z zl) ⟨a, l, false⟩ (fun _ => rfl) ⟨by show a ≤ _; omega, hz.symm, hzl.symm⟩ ?_ rfl ?_
  · refine sub_forget rfl rfl ?_ ?_ <;> simp -implicitDefEqProofs [SSk]
  · rintro ⟨p, ln, cm⟩ ⟨hp, hq1, hq2⟩
    simp only at hp hq1 hq2
    refine mc_runs ctx0 ?_
    by_cases hlt : p < s.size
    · obtain ⟨c, hc⟩ : ∃ c, s.data.toList[p]? = some c := ⟨_, List.getElem?_eq_getElem hlt⟩
      have ix := index_str s p c hc
      have hdrop : s.data.toList.drop p = c :: s.data.toList.drop (p + 1) := by
        have := List.drop_eq_getElem_cons (l := s.data.toList) (i := p) (by omega)
        rw [this, (List.getElem?_eq_some_iff.1 hc).2]
      rw [hdrop, skipS] at hq1 hq2
      obtain ⟨p1, hp1⟩ : ∃ p1, p1 = p + 1 := ⟨_, rfl⟩
      rw [← hp1] at hq1 hq2
      have e1 : IntKind.i64.wrap ((p : Int) + 1) = (p1 : Int) := by rw [hp1]; exact wrap_nat (by omega) (by omega)
      have hlnb : ln ≤ 1000000 + 65536 := by omega
      have st1 := fun ln => ss1 s p ln p1 []
      have nxt : ∀ (ln' : Nat) (cm' : Bool) (env : List (Nat × PV)), p1 + (skipS cm' (s.data.toList.drop p1)).1 = z → ln' + (skipS cm' (s.data.toList.drop p1)).2 = zl → (∀ q ∈ (SSk s ⟨p1, ln', cm'⟩).env, Abs.look env q.1 = some q.2) →
          Abs.Next Tryd.prog (G q) 1 (SSk s) (fun a' => OkSk s.data.toList z zl a' ∧ s.size - a'.p < s.size - p) ⟨env, [(0, scr s p1 ln')], 1, 56⟩ := by
        intro ln' cm' env h1 h2 h3
        refine Abs.Next.mk ⟨p1, ln', cm'⟩ ⟨⟨by show p1 ≤ _; omega, h1, h2⟩, by show s.size - p1 < s.size - p; omega⟩ (sub_forget rfl rfl h3 fun q hq => ?_)
        have e : q = (0, scr s p1 ln') := by simpa [SSk] using hq
        subst e; rfl
      have b10 : ((c.toNat : Int) == 10) = decide (c.toNat = 10) := by
        by_cases h : c.toNat = 10
        · rw [h]; rfl
        · rw [decide_eq_false h, beq_eq_false_iff_ne]; omega
      have b37 : ((c.toNat : Int) == 37) = decide (c.toNat = 37) := by
        by_cases h : c.toNat = 37
        · rw [h]; rfl
        · rw [decide_eq_false h, beq_eq_false_iff_ne]; omega
      by_cases h10 : c.toNat = 10
      · rw [if_pos h10] at hq1 hq2
        rw [decide_eq_true h10] at b10
        obtain ⟨ln1, hln1⟩ : ∃ ln1, ln1 = ln + 1 := ⟨_, rfl⟩
        have e2 : IntKind.i64.wrap ((ln : Int) + 1) = (ln1 : Int) := by rw [hln1]; exact wrap_nat (by omega) (by omega)
        have st2 := ss2 s p ln ln1 []
        simp -implicitDefEqProofs [SSk, sl0, sl1, sl2, hlt, ix, b10, e1, e2, st2, st1]
        exact nxt ln1 false _ (by omega) (by omega) (by simp -implicitDefEqProofs [SSk])
      · rw [if_neg h10] at hq1 hq2
        rw [decide_eq_false h10] at b10
        cases cm with
        | true =>
          simp only [Bool.true_or, if_true] at hq1 hq2
          simp -implicitDefEqProofs [SSk, sl0, sl1, hlt, ix, b10, e1, st1]
          exact nxt ln true _ (by omega) (by omega) (by simp -implicitDefEqProofs [SSk])
        | false =>
          by_cases h37 : c.toNat = 37
          · rw [decide_eq_true h37] at b37 hq1 hq2
            simp only [Bool.or_true, if_true] at hq1 hq2
            simp -implicitDefEqProofs [SSk, sl0, sl1, hlt, ix, b10, b37, e1, st1]
            exact nxt ln true _ (by omega) (by omega) (by simp -implicitDefEqProofs [SSk])
          · rw [decide_eq_false h37] at b37 hq1 hq2
            simp only [Bool.or_false, Bool.false_eq_true, if_false] at hq1 hq2
            by_cases h32 : c.toNat = 32
            · rw [if_pos (.inl h32)] at hq1 hq2
              have b32 : ((c.toNat : Int) != 32) = false := by rw [h32]; rfl
              simp -implicitDefEqProofs [SSk, sl0, sl1, hlt, ix, b10, b37, b32, e1, st1]
              exact nxt ln false _ (by omega) (by omega) (by simp -implicitDefEqProofs [SSk])
            · have b32 : ((c.toNat : Int) != 32) = true := by rw [bne_iff_ne]; omega
              by_cases h9 : c.toNat = 9
              · rw [if_pos (.inr (.inl h9))] at hq1 hq2
                have b9 : ((c.toNat : Int) != 9) = false := by rw [h9]; rfl
                simp -implicitDefEqProofs [SSk, sl0, sl1, hlt, ix, b10, b37, b32, b9, e1, st1]
                exact nxt ln false _ (by omega) (by omega) (by simp -implicitDefEqProofs [SSk])
              · have b9 : ((c.toNat : Int) != 9) = true := by rw [bne_iff_ne]; omega
                by_cases h13 : c.toNat = 13
                · rw [if_pos (.inr (.inr h13))] at hq1 hq2
                  have b13 : ((c.toNat : Int) != 13) = false := by rw [h13]; rfl
                  simp -implicitDefEqProofs [SSk, sl0, sl1, hlt, ix, b10, b37, b32, b9, b13, e1, st1]
                  exact nxt ln false _ (by omega) (by omega) (by simp -implicitDefEqProofs [SSk])
                · have b13 : ((c.toNat : Int) != 13) = true := by rw [bne_iff_ne]; omega
                  rw [if_neg (by omega)] at hq1 hq2
                  have e1 : p = z := by simpa using hq1
                  have e2 : ln = zl := by simpa using hq2
                  subst e1; subst e2
                  simp -implicitDefEqProofs [SSk, sl0, sl1, hlt, ix, b10, b37, b32, b9, b13]
                  exact finr _
    · have hd0 : s.data.toList.drop p = [] := List.drop_eq_nil_of_le (by omega)
      rw [hd0, skipS] at hq1 hq2
      have e1 : p = z := by simpa using hq1
      have e2 : ln = zl := by simpa using hq2
      subst e1; subst e2
      simp -implicitDefEqProofs [SSk, sl0, sl1, hlt]
      exact fin _
end Go.Proofs.YtbabdjhikamkoaaDoor
