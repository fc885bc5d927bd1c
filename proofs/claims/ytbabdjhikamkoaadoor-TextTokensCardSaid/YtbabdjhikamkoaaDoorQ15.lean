/-
  The laws TextWords and TextScans return true. No statement of the program stands here.
-/
import Derived.Test.YtbabdjhikamkoaaDoorQ14
namespace Go.Proofs.YtbabdjhikamkoaaDoor
set_option linter.unusedSimpArgs false
set_option linter.unusedVariables false
open Go Go.Abs
variable {q : Gl}

def SSm (n : Nat) (t u : T) (j : Nat) : AState := ⟨[(5, .t (iv (j : Int))), (1, .t u), (0, .t t)], [], 0, n⟩
def SSmE (n : Nat) (t u : T) : AState := ⟨[(1, .t u), (0, .t t)], [], 0, n⟩

theorem same_call {t u : T} {l : List ByteArray} (ht : IsS eStr t l) (hu : IsS eStr u l) (hb : l.length ≤ 9223372036854775806) : CallT Tryd.prog (G q) 23 [t, u] (· = bv true) := by
  refine k_r01_Same.call rfl ?_
  unfold M_r01_Same
  have l1 := ht.len
  have l2 := hu.len
  refine mc_seq_runs ctx0 ?_
  simp -implicitDefEqProofs
  refine mc_seq_runs ctx0 ?_
  simp -implicitDefEqProofs [l1, l2]
  refine mc_cut (α := Unit) (fun _ => SSmE 26 t u) (fun _ => True) (fun _ => rfl) ?_ ?_
  · refine mc_seq_runs ctx0 ?_
    simp -implicitDefEqProofs
    refine mc_block ?_
    refine mc_for (SSm 26 t u) l.length (fun _ => rfl) ?_ rfl ?_ ?_
    · refine sub_forget rfl rfl ?_ ?_ <;> simp -implicitDefEqProofs [SSm]
    · intro j hj
      refine mc_runs ctx0 ?_
      obtain ⟨x, hx⟩ : ∃ x, l[j]? = some x := ⟨_, List.getElem?_eq_getElem hj⟩
      have i1 : iaddrM 1 (.t t) (.t (iv (j : Int))) = some (.t (.pt (eStr.enc x ++ rest eStr l j))) := ht.iaddr hx .i64
      have i2 : iaddrM 1 (.t u) (.t (iv (j : Int))) = some (.t (.pt (eStr.enc x ++ rest eStr l j))) := hu.iaddr hx .i64
      have ld : loadM false 1 [] (.t (.pt (eStr.enc x ++ rest eStr l j))) = some (.t (sv x)) := rfl
      have e1 : IntKind.i64.wrap ((j : Int) + 1) = ((j + 1 : Nat) : Int) := wrap_nat (by omega) (by omega)
      simp -implicitDefEqProofs [SSm, l1, hj, i1, i2, ld, e1]
      refine sub_forget rfl rfl ?_ ?_ <;> simp -implicitDefEqProofs
    · refine mc_runs ctx0 ?_
      simp -implicitDefEqProofs [SSm, l1]
      exact Abs.Next.mk () trivial (sub_forget rfl rfl (by simp -implicitDefEqProofs [SSmE]) (by simp -implicitDefEqProofs [SSmE]))
  · rintro _ _
    refine mc_runs ctx0 ?_
    simp -implicitDefEqProofs [SSmE]

theorem eqc_refl (k l : Int) (t : ByteArray) : eqCells [.i, .s, .i] [iv k, sv t, iv l] [iv k, sv t, iv l] = some true := by
  simp [eqCells]

theorem sameTok_call {t u : T} {l : List Tok} (ht : IsS eTok t l) (hu : IsS eTok u l) (hb : l.length ≤ 9223372036854775806) : CallT Tryd.prog (G q) 26 [t, u] (· = bv true) := by
  refine k_r01_SameTokens.call rfl ?_
  unfold M_r01_SameTokens
  have l1 := ht.len
  have l2 := hu.len
  refine mc_seq_runs ctx0 ?_
  simp -implicitDefEqProofs
  refine mc_seq_runs ctx0 ?_
  simp -implicitDefEqProofs [l1, l2]
  refine mc_cut (α := Unit) (fun _ => SSmE 26 t u) (fun _ => True) (fun _ => rfl) ?_ ?_
  · refine mc_seq_runs ctx0 ?_
    simp -implicitDefEqProofs
    refine mc_block ?_
    refine mc_for (SSm 26 t u) l.length (fun _ => rfl) ?_ rfl ?_ ?_
    · refine sub_forget rfl rfl ?_ ?_ <;> simp -implicitDefEqProofs [SSm]
    · intro j hj
      refine mc_runs ctx0 ?_
      obtain ⟨x, hx⟩ : ∃ x, l[j]? = some x := ⟨_, List.getElem?_eq_getElem hj⟩
      have i1 : iaddrM 3 (.t t) (.t (iv (j : Int))) = some (.t (.pt (eTok.enc x ++ rest eTok l j))) := ht.iaddr hx .i64
      have i2 : iaddrM 3 (.t u) (.t (iv (j : Int))) = some (.t (.pt (eTok.enc x ++ rest eTok l j))) := hu.iaddr hx .i64
      have ld : loadM true 3 [] (.t (.pt (eTok.enc x ++ rest eTok l j))) = some (.t (.ag [iv x.k, sv (bs x.t), iv (x.l : Int)])) := rfl
      have e1 : IntKind.i64.wrap ((j : Int) + 1) = ((j + 1 : Nat) : Int) := wrap_nat (by omega) (by omega)
      have eq := eqc_refl x.k (x.l : Int) (bs x.t)
      simp -implicitDefEqProofs [SSm, l1, hj, i1, i2, ld, e1, eq]
      refine sub_forget rfl rfl ?_ ?_ <;> simp -implicitDefEqProofs
    · refine mc_runs ctx0 ?_
      simp -implicitDefEqProofs [SSm, l1]
      exact Abs.Next.mk () trivial (sub_forget rfl rfl (by simp -implicitDefEqProofs [SSmE]) (by simp -implicitDefEqProofs [SSmE]))
  · rintro _ _
    refine mc_runs ctx0 ?_
    simp -implicitDefEqProofs [SSmE]

/-- Two trees that are one list. -/
noncomputable def gSame {α : Type} (e : Enc α) : List T → Option T := g2 (tSl e) (tSl e) fun a b => open Classical in if a = b ∧ a.length ≤ 9223372036854775806 then some (bv true) else none
theorem hSame {α : Type} {e : Enc α} {F : Nat} (h : ∀ t u (l : List α), IsS e t l → IsS e u l → l.length ≤ 9223372036854775806 → CallT Tryd.prog (G q) F [t, u] (· = bv true)) : GOK Tryd.prog (G q) F (gSame e) :=
  g2_ok fun a b x y r ha hb hr => by
    split at hr
    · rename_i hc
      obtain ⟨rfl, hl⟩ := hc
      injection hr with hr; subst hr
      exact h a b x ha hb hl
    · cases hr
theorem gSame_eq {α : Type} {e : Enc α} {t u : T} {l : List α} (ht : IsS e t l) (hu : IsS e u l) (hl : l.length ≤ 9223372036854775806) : gSame e [t, u] = some (bv true) := by
  rw [gSame, g2_eq (τ := tSl e) (σ := tSl e) ht hu, if_pos ⟨rfl, hl⟩]

noncomputable def tbK3 : Tbl := [(10, gEx), (21, gStr (fun s => wordsT s.data.toList) 2000), (22, gStr (fun s => wordsT s.data.toList) 2000), (23, gSame eStr)]
theorem ctxK3 : Ctx Tryd.prog (G q) (orc tbK3) := (TblOK.cons hEx (.cons (gStr_ok fun s h => words_call s (by omega)) (.cons (gStr_ok rwords_call) (.cons (hSame fun t u l => same_call) .nil)))).ctx mixed

theorem split_len : ∀ (l acc : List UInt8), (splitAcc acc l).length ≤ l.length + 1
  | [], acc => by simp [splitAcc]
  | c :: r, acc => by
    rw [splitAcc]
    have h1 := split_len r []
    have h2 := split_len r (acc ++ [c])
    split
    · simp; omega
    · simp; omega

theorem wordsT_cases (l : List UInt8) : wordsT l = .tu [nilS, iv 8] ∨ ∃ ws : List (List UInt8), ws.length ≤ l.length + 1 ∧ wordsT l = .tu [treeS eStr (ws.map bs), iv 0] := by
  unfold wordsT
  cases h : wordsS l with
  | none => left; rfl
  | some ws =>
    right
    refine ⟨ws, ?_, rfl⟩
    unfold wordsS at h
    split at h
    · split at h
      · injection h with h; subst h; simp
      · split at h
        · cases h
        · injection h with h; subst h; exact split_len l []
    · cases h

theorem words_law (s : ByteArray) (hs : s.size ≤ lim) : CallT Tryd.prog (G q) 5 [sv s] (· = bv true) := by
  refine k_w01_TextWords.runs ctxK3 rfl ?_
  have ex : gEx [] = some (bv true) := rfl
  by_cases h : 2000 < s.size
  · have h' : (2000 : Int) < (s.size : Int) := by omega
    simp -implicitDefEqProofs [M_w01_TextWords, h', tbK3, ex]
  · have h' : ¬ (2000 : Int) < (s.size : Int) := by omega
    have hlen : s.data.toList.length = s.size := rfl
    have q1 := gStr_eq (f := fun s => wordsT s.data.toList) (n := 2000) (s := s) (by omega)
    rcases wordsT_cases s.data.toList with hw | ⟨ws, hl, hw⟩
    · have q2 := gSame_eq (e := eStr) (t := nilS) (u := nilS) (l := []) IsS.nil IsS.nil (by simp)
      rw [hw] at q1
      simp -implicitDefEqProofs [M_w01_TextWords, h', tbK3, ex, q1, q2, extractV]
    · have q2 := gSame_eq (e := eStr) (IsS.tree eStr (ws.map bs)) (IsS.tree eStr (ws.map bs)) (by simp; omega)
      rw [hw] at q1
      simp -implicitDefEqProofs [M_w01_TextWords, h', tbK3, ex, q1, q2, extractV]

noncomputable def tbK4 : Tbl := [(10, gEx), (24, gStr (fun s => scanT s.data.toList) lim), (25, gStr (fun s => scanT s.data.toList) lim), (26, gSame eTok)]
theorem ctxK4 : Ctx Tryd.prog (G q) (orc tbK4) := (TblOK.cons hEx (.cons (gStr_ok scan_call) (.cons (gStr_ok rscan_call) (.cons (hSame fun t u l => sameTok_call) .nil)))).ctx mixed

theorem scanG_len : ∀ (f : Nat) (D : List UInt8) (l : Nat) (ts : List Tok), scanG f D l = .ok ts → ts.length ≤ D.length
  | 0, D, l, ts, h => by simp only [scanG, Except.ok.injEq] at h; subst h; simp
  | f + 1, D, l, ts, h => by
    rw [scanG] at h
    split at h
    · simp only [Except.ok.injEq] at h; subst h; simp
    · rename_i h0
      split at h
      · cases h
      · rename_i he
        obtain ⟨n1, n2⟩ := next_pos D (by simpa using h0) (by simpa using he)
        split at h
        · cases h
        · rename_i ts' h2
          injection h with h
          subst h
          have := scanG_len f _ _ _ h2
          simp only [List.length_drop] at this
          simp only [List.length_cons]
          omega
theorem scanS_len {D : List UInt8} {l : Nat} {ts : List Tok} (h : scanS D l = .ok ts) : ts.length ≤ D.length := by
  have := scanG_len _ _ _ _ h
  simp only [List.length_drop] at this
  omega

theorem scanT_cases (l : List UInt8) : (∃ m e, scanT l = .tu [nilS, iv m, iv e]) ∨ ∃ ts : List Tok, ts.length ≤ l.length ∧ scanT l = .tu [treeS eTok ts, iv 0, iv 0] := by
  unfold scanT
  split
  · exact .inl ⟨_, _, rfl⟩
  · cases h : scanS l 1 with
    | error x => exact .inl ⟨_, _, rfl⟩
    | ok ts => exact .inr ⟨ts, scanS_len h, rfl⟩

theorem scans_law (s : ByteArray) (hs : s.size ≤ lim) : CallT Tryd.prog (G q) 6 [sv s] (· = bv true) := by
  refine k_w01_TextScans.runs ctxK4 rfl ?_
  have ex : gEx [] = some (bv true) := rfl
  have hlen : s.data.toList.length = s.size := rfl
  have q1 := gStr_eq (f := fun s => scanT s.data.toList) (n := lim) (s := s) hs
  have main : runsM (orc tbK4) M_w01_TextScans (startM 46 [sv s]) (EndsM [.tmp 2] (· = bv true)) := by
    have lim' : lim = 9223372036854775807 := rfl
    rcases scanT_cases s.data.toList with ⟨m, e, hw⟩ | ⟨ws, hl, hw⟩
    · have q2 := gSame_eq (e := eTok) (t := nilS) (u := nilS) (l := []) IsS.nil IsS.nil (by simp)
      rw [hw] at q1
      by_cases h : 2000 < s.size
      · have h' : (2000 : Int) < (s.size : Int) := by omega
        by_cases h2 : s.size ≤ 65536
        · have h2' : (s.size : Int) ≤ 65536 := by omega
          simp -implicitDefEqProofs [M_w01_TextScans, h', h2', tbK4, ex]
        · have h2' : ¬ (s.size : Int) ≤ 65536 := by omega
          simp -implicitDefEqProofs [M_w01_TextScans, h', h2', tbK4, ex, q1, q2, extractV]
      · have h' : ¬ (2000 : Int) < (s.size : Int) := by omega
        simp -implicitDefEqProofs [M_w01_TextScans, h', tbK4, ex, q1, q2, extractV]
    · by_cases h : 2000 < s.size
      · have h' : (2000 : Int) < (s.size : Int) := by omega
        by_cases h2 : s.size ≤ 65536
        · have h2' : (s.size : Int) ≤ 65536 := by omega
          simp -implicitDefEqProofs [M_w01_TextScans, h', h2', tbK4, ex]
        · exfalso
          have : scanT s.data.toList = .tu [nilS, iv 0, iv 7] := by rw [scanT, if_pos (by omega)]
          rw [this] at hw
          injection hw with hw
          injection hw with _ hw
          injection hw with _ hw
          injection hw with hw
          injection hw with hw
          injection hw with _ hw
          cases hw
      · have h' : ¬ (2000 : Int) < (s.size : Int) := by omega
        have q2 := gSame_eq (e := eTok) (IsS.tree eTok ws) (IsS.tree eTok ws) (by omega)
        rw [hw] at q1
        simp -implicitDefEqProofs [M_w01_TextScans, h', tbK4, ex, q1, q2, extractV]
  exact main
end Go.Proofs.YtbabdjhikamkoaaDoor
