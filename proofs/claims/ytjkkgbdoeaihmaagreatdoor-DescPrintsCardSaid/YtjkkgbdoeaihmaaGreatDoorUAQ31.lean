/-
 Auxiliary facts. No statement of the program stands here.
-/
import Derived.Test.YtjkkgbdoeaihmaaGreatDoorUAQ28
import Derived.Test.YtjkkgbdoeaihmaaGreatDoorUAQ30
import Derived.Test.YtjkkgbdoeaihmaaGreatDoorUAQ29
import Derived.Test.YtjkkgbdoeaihmaaGreatDoorUAQ26
namespace Go.Proofs.YtjkkgbdoeaihmaaGreatDoor
set_option linter.unusedSimpArgs false
set_option linter.unusedVariables false
open Go Go.Abs
variable {q : Gl}
theorem bs_cat (a b : List UInt8) : bs a ++ bs b = bs (a ++ b) := by
 show (⟨a.toArray⟩ : ByteArray) ++ ⟨b.toArray⟩ = _
 apply ByteArray.ext
 simp [bs, ByteArray.data_append]
theorem sadd {a b : List UInt8} (h : a.length + b.length ≤ 2000000000) (Φ : Oracle) (H : Heap) (nx : Nat) : evalK Φ H nx (.bin false .add none) [.t (sv (bs a)), .t (sv (bs b))] = some (.t (sv (bs (a ++ b))), H, nx) := by
 have e : binM false .add (.string (bs a)) (.string (bs b)) = some (.string (bs a ++ bs b)) := by
  show (if (bs a).size + (bs b).size ≤ 9223372036854775807 then some (Value.string (bs a ++ bs b)) else none) = _
  exact if_pos (by show a.toArray.size + b.toArray.size ≤ _; rw [List.size_toArray, List.size_toArray]; omega)
 rw [← bs_cat]
 show (match binM false .add (.string (bs a)) (.string (bs b)) with
   | some v => some (PV.t (.v v), H, nx)
   | none => _) = _
 rw [e]
inductive Wr : Ds → Prop where
 | mk (op : Int) (name : ByteArray) (path : List ByteArray) (kids : List Ds) : 1 ≤ op → op ≤ 8 → (op = 5 → path ≠ [] ∧ kids.length = 1) → (op = 7 → 2 ≤ kids.length) → (op = 1 → name.size ≠ 0) → (op = 4 → kids ≠ []) → path.length ≤ 1000 → kids.length ≤ 1000 → (wrD (.mk op name path kids)).length ≤ 1000000000 → (∀ k ∈ kids, Wr k) → Wr (.mk op name path kids)
def stillW (sep last : List UInt8) (kids : List Ds) (j : Nat) : List UInt8 := (if j = 0 then [] else sepOf sep last (kids.drop j)) ++ wrL sep last (kids.drop j)
theorem rest_zero (sep last : List UInt8) (kids : List Ds) : stillW sep last kids 0 = wrL sep last kids := by simp [stillW]
theorem rest_end (sep last : List UInt8) (kids : List Ds) : stillW sep last kids kids.length = [] := by
 unfold stillW
 rw [List.drop_length]
 split <;> simp [sepOf, wrL]
def glueW (sep last : List UInt8) (n j : Nat) : List UInt8 := if j = 0 then [] else if j + 1 = n then last else sep
theorem rest_step (sep last : List UInt8) (kids : List Ds) {j : Nat} {x : Ds} (h : kids[j]? = some x) : stillW sep last kids j = glueW sep last kids.length j ++ (wrD x ++ stillW sep last kids (j + 1)) := by
 obtain ⟨hlt, he⟩ := List.getElem?_eq_some_iff.1 h
 unfold stillW glueW
 rw [List.drop_eq_getElem_cons hlt, he, wrL, if_neg (show ¬ j + 1 = 0 by omega)]
 by_cases h0 : j = 0
 ·rw [if_pos h0, if_pos h0]
 ·rw [if_neg h0, if_neg h0]
  congr 1
  cases hd : kids.drop (j + 1) with
  | nil =>
   have : kids.length ≤ j + 1 := List.drop_eq_nil_iff.1 hd
   rw [if_pos (by omega)]; rfl
  | cons y r =>
   have : (kids.drop (j + 1)).length = r.length + 1 := by rw [hd]; rfl
   rw [List.length_drop] at this
   rw [if_neg (by omega)]; rfl
noncomputable def gWr (kids : List Ds) (ts : List T) : Option T := g1 tD (fun d => open Classical in if d ∈ kids then some (sv (bs (wrD d))) else none) ts
theorem gWr_eq {kids : List Ds} {c : List T} {d : Ds} (h : Abs.IsD d c) (hm : d ∈ kids) : gWr kids [.ag c] = some (sv (bs (wrD d))) := by
 show g1 _ _ _ = _
 rw [g1_eq (τ := tD) (x := d) ⟨c, rfl, h⟩, if_pos hm]
theorem joined_call {kids : List Ds} (hw : GOK Tryz.prog (G q) 40 (gWr kids)) (hl : kids.length ≤ 1000) (sep last : List UInt8) (hW : (wrL sep last kids).length ≤ 1000000000) {tk : T} (hk : IsK tk kids) :
  CallT Tryz.prog (G q) 66 [tk, sv (bs sep), sv (bs last)] (· = sv (bs (wrL sep last kids))) := by
 have C := (TblOK.cons hw .nil).ctx mixed
 have hlk : lenslM (.t tk) = some (.t (iv (kids.length : Int))) := hk.len
 refine k_r19_joined.call rfl ?_
 unfold M_r19_joined
 obtain ⟨W, hWe⟩ : ∃ W, W = wrL sep last kids := ⟨_, rfl⟩
 rw [← hWe] at hW ⊢
 refine mc_seq_runs C ?_
 simp -implicitDefEqProofs
 refine mc_seq_runs C ?_
 simp -implicitDefEqProofs
 refine mc_cut (α := Unit) (fun _ => ⟨[(7, .t (sv (bs W)))], [], 0, 42⟩) (fun _ => True) (fun _ => rfl) ?_ ?_
 ·refine mc_seq_runs C ?_
  simp -implicitDefEqProofs
  refine mc_block ?_
  refine mc_while (α := Nat × List UInt8) (fun j => ⟨[(8, .t (iv (j.1 : Int))), (7, .t (sv (bs j.2))), (0, .t tk), (1, .t (sv (bs sep))), (2, .t (sv (bs last)))], [], 0, 42⟩) (fun j => kids.length - j.1) (fun j => j.1 ≤ kids.length ∧ j.2 ++ stillW sep last kids j.1 = W) (0, []) (fun _ => rfl) ⟨by show 0 ≤ _; omega, by rw [List.nil_append, rest_zero, hWe]⟩ (sub_env (by simp -implicitDefEqProofs [bs])) rfl ?_
  rintro ⟨j, A⟩ ⟨hj, heq⟩
  dsimp only at hj heq
  have hlen : (A ++ stillW sep last kids j).length ≤ 1000000000 := by rw [heq]; exact hW
  by_cases hlt : j < kids.length
  ·obtain ⟨x, hx⟩ : ∃ x, kids[j]? = some x := ⟨_, List.getElem?_eq_getElem hlt⟩
   obtain ⟨p, ci, h1, h2, h3⟩ := kid_at hk hx
   have hlt' : (j : Int) < (kids.length : Int) := by omega
   have hg := gWr_eq h3 (List.mem_of_getElem? hx)
   rw [rest_step sep last kids hx] at heq hlen
   simp only [List.length_append] at hlen
   obtain ⟨j1, hj1⟩ : ∃ j1, j1 = j + 1 := ⟨_, rfl⟩
   have ej : IntKind.i64.wrap ((j : Int) + 1) = (j1 : Int) := wrap_nat (by omega) (by omega)
   rw [← hj1] at heq
   have em : IntKind.i64.wrap ((kids.length : Int) - 1) = ((kids.length - 1 : Nat) : Int) := wrap_nat (by omega) (by omega)
   obtain ⟨m, hm⟩ : ∃ m, m = kids.length - 1 := ⟨_, rfl⟩
   rw [← hm] at em
   unfold glueW at heq hlen
   by_cases h0 : j = 0
   ·rw [if_pos h0, List.nil_append, ← List.append_assoc] at heq
    have a1 := sadd (a := A) (b := wrD x) (by omega)
    have h0' : ¬ (0 : Int) < (j : Int) := by omega
    have h0n : ¬ 0 < j := by omega
    refine mc_runs C ?_
    simp -implicitDefEqProofs [hlk, hlt, hlt', h0', h0n, h1, h2, hg, ej, a1]
    refine Abs.Next.mk (j1, A ++ wrD x) ?_ ?_
    ·exact ⟨⟨by show j1 ≤ _; omega, heq⟩, by show kids.length - j1 < kids.length - j; omega⟩
    ·exact sub_env (by simp -implicitDefEqProofs)
   ·rw [if_neg h0] at heq hlen
    have h0' : (0 : Int) < (j : Int) := by omega
    have h0n : 0 < j := by omega
    by_cases hl1 : j + 1 = kids.length
    ·rw [if_pos hl1] at heq hlen
     have a1 := sadd (a := A) (b := last) (by omega)
     have a2 := sadd (a := A ++ last) (b := wrD x) (by rw [List.length_append]; omega)
     have hb : ((j : Int) == (m : Int)) = true := by
      have : j = m := by omega
      subst this; exact beq_self_eq_true _
     refine mc_runs C ?_
     simp -implicitDefEqProofs [hlk, hlt, hlt', h0', h0n, em, hb, h1, h2, hg, ej, a1, a2]
     refine Abs.Next.mk (j1, A ++ last ++ wrD x) ?_ ?_
     ·exact ⟨⟨by show j1 ≤ _; omega, by simpa using heq⟩, by show kids.length - j1 < kids.length - j; omega⟩
     ·exact sub_env (by simp -implicitDefEqProofs)
    ·rw [if_neg hl1] at heq hlen
     have a1 := sadd (a := A) (b := sep) (by omega)
     have a2 := sadd (a := A ++ sep) (b := wrD x) (by rw [List.length_append]; omega)
     have hb : ((j : Int) == (m : Int)) = false := by
      have : j ≠ m := by omega
      simpa using fun h => this (by omega)
     refine mc_runs C ?_
     simp -implicitDefEqProofs [hlk, hlt, hlt', h0', h0n, em, hb, h1, h2, hg, ej, a1, a2]
     refine Abs.Next.mk (j1, A ++ sep ++ wrD x) ?_ ?_
     ·exact ⟨⟨by show j1 ≤ _; omega, by simpa using heq⟩, by show kids.length - j1 < kids.length - j; omega⟩
     ·exact sub_env (by simp -implicitDefEqProofs)
  ·have hlt' : ¬ (j : Int) < (kids.length : Int) := by omega
   have hje : j = kids.length := by omega
   rw [hje, rest_end, List.append_nil] at heq
   refine mc_runs C ?_
   simp -implicitDefEqProofs [hlk, hlt, hlt']
   exact Abs.Next.mk () trivial (sub_forget rfl rfl (by simp -implicitDefEqProofs [heq]) (by simp -implicitDefEqProofs))
 ·rintro ⟨⟩ -
  refine mc_runs C ?_
  simp -implicitDefEqProofs
def tailP : List ByteArray → List UInt8
 | [] => []
 | s :: r => 46 :: dotted (s :: r)
theorem dotted_cons (s : ByteArray) (r : List ByteArray) : dotted (s :: r) = s.data.toList ++ tailP r := by cases r <;> rfl
theorem tail_step {path : List ByteArray} {j : Nat} {x : ByteArray} (h : path[j]? = some x) : tailP (path.drop j) = 46 :: (x.data.toList ++ tailP (path.drop (j + 1))) := by
 obtain ⟨hlt, he⟩ := List.getElem?_eq_some_iff.1 h
 rw [List.drop_eq_getElem_cons hlt, he, tailP, dotted_cons]
theorem wrL_one (sep last : List UInt8) (k : Ds) : wrL sep last [k] = wrD k := by
 rw [wrL, wrL]; simp [sepOf]
noncomputable def gJn (kids : List Ds) (ts : List T) : Option T := match ts with
 | [t, .v (.string a), .v (.string b)] => open Classical in if IsK t kids ∧ (wrL a.data.toList b.data.toList kids).length ≤ 1000000000 then some (sv (bs (wrL a.data.toList b.data.toList kids))) else none
 | _ => none
theorem gJn_eq {kids : List Ds} {t : T} (h : IsK t kids) (a b : List UInt8) (hl : (wrL a b kids).length ≤ 1000000000) : gJn kids [t, sv (bs a), sv (bs b)] = some (sv (bs (wrL a b kids))) := if_pos ⟨h, hl⟩
theorem gJn_ok {kids : List Ds} (hw : GOK Tryz.prog (G q) 40 (gWr kids)) (hl : kids.length ≤ 1000) : GOK Tryz.prog (G q) 66 (gJn kids) := fun args r h => by
 unfold gJn at h
 split at h
 ·rename_i t a b
  split at h
  ·rename_i hc
   injection h with h; subst h
   have := joined_call hw hl a.data.toList b.data.toList hc.2 hc.1
   rwa [bs_data, bs_data] at this
  ·cases h
 ·cases h
theorem saddn (b : UInt8) {s : ByteArray} (h : s.data.toList.length ≤ 1000000000) (Φ : Oracle) (H : Heap) (nx : Nat) : evalK Φ H nx (.bin false .add none) [.t (sv ⟨#[b]⟩), .t (sv s)] = some (.t (sv (bs (b :: s.data.toList))), H, nx) := by
 have := sadd (a := [b]) (b := s.data.toList) (by show 1 + _ ≤ _; omega) Φ H nx
 rw [bs_data] at this
 exact this
theorem saddr {a : List UInt8} {s : ByteArray} (h : a.length + s.data.toList.length ≤ 2000000000) (Φ : Oracle) (H : Heap) (nx : Nat) : evalK Φ H nx (.bin false .add none) [.t (sv (bs a)), .t (sv s)] = some (.t (sv (bs (a ++ s.data.toList))), H, nx) := by
 have := sadd (a := a) (b := s.data.toList) h Φ H nx
 rw [bs_data] at this
 exact this
theorem Wr.parts {op : Int} {name : ByteArray} {path : List ByteArray} {kids : List Ds} (h : Wr (.mk op name path kids)) : 1 ≤ op ∧ op ≤ 8 ∧ (op = 5 → path ≠ [] ∧ kids.length = 1) ∧ (op = 7 → 2 ≤ kids.length) ∧ (op = 1 → name.size ≠ 0) ∧ (op = 4 → kids ≠ []) ∧ path.length ≤ 1000 ∧ kids.length ≤ 1000 ∧ (wrD (.mk op name path kids)).length ≤ 1000000000 ∧ ∀ k ∈ kids, Wr k := by
 cases h with
 | mk _ _ _ _ h1 h2 h3 h4 n1 n2 h5 h6 h7 h8 => exact ⟨h1, h2, h3, h4, n1, n2, h5, h6, h7, h8⟩
theorem written_call {op : Int} {name : ByteArray} {path : List ByteArray} {kids : List Ds} {c : List T} (hd : Abs.IsD (.mk op name path kids) c) (hw : Wr (.mk op name path kids)) (hrec : GOK Tryz.prog (G q) 40 (gWr kids)) :
  CallT Tryz.prog (G q) 40 [.ag c] (· = sv (bs (wrD (.mk op name path kids)))) := by
 obtain ⟨w1, w2, w3, w4, wn1, wn2, w5, w6, w7, w8⟩ := hw.parts
 obtain ⟨tp, tk, rfl, hp, hk⟩ := hd.parts
 have C := (TblOK.cons hrec (.cons (gJn_ok hrec w6) .nil)).ctx mixed
 have hlp : lenslM (.t tp) = some (.t (iv (path.length : Int))) := hp.len
 have hlk : lenslM (.t tk) = some (.t (iv (kids.length : Int))) := hk.len
 obtain ⟨W, hW⟩ : ∃ W, W = wrD (.mk op name path kids) := ⟨_, rfl⟩
 rw [← hW] at w7 ⊢
 rw [wrD] at hW
 refine k_r19_written.call rfl ?_
 have hop : op = 1 ∨ op = 2 ∨ op = 3 ∨ op = 4 ∨ op = 5 ∨ op = 6 ∨ op = 7 ∨ op = 8 := by omega
 rcases hop with rfl | rfl | rfl | rfl | rfl | rfl | rfl | rfl
 ·rw [if_pos rfl] at hW
  refine mc_runs C ?_
  simp -implicitDefEqProofs [M_r19_written, box_d, dl0, dl1]
  rw [hW, bs_data]
 ·rw [if_neg (by decide), if_pos rfl] at hW
  have a1 := saddn 64 (s := name) (by rw [hW, List.length_cons] at w7; omega)
  refine mc_runs C ?_
  simp -implicitDefEqProofs [M_r19_written, box_d, dl0, dl1, a1]
  rw [hW]
 ·rw [if_neg (by decide), if_neg (by decide), if_pos rfl] at hW
  have a1 := saddn 35 (s := name) (by rw [hW, List.length_cons] at w7; omega)
  refine mc_runs C ?_
  simp -implicitDefEqProofs [M_r19_written, box_d, dl0, dl1, a1]
  rw [hW]
 ·rw [if_neg (by decide), if_neg (by decide), if_neg (by decide), if_pos rfl] at hW
  have gj : gJn kids [tk, sv ⟨#[32, 38, 32]⟩, sv ⟨#[32, 38, 32]⟩] = _ := gJn_eq hk [32, 38, 32] [32, 38, 32] (by rw [← hW]; exact w7)
  rw [← hW] at gj
  refine mc_runs C ?_
  simp -implicitDefEqProofs [M_r19_written, box_d, dl0, dl3, gj]
 ·rw [if_neg (by decide), if_neg (by decide), if_neg (by decide), if_neg (by decide), if_pos rfl] at hW
  obtain ⟨hne, hk1⟩ := w3 rfl
  obtain ⟨p0, pr, rfl⟩ := List.exists_cons_of_ne_nil hne
  obtain ⟨k, rfl⟩ := List.length_eq_one_iff.1 hk1
  rw [wrL_one] at hW
  obtain ⟨r0, h1⟩ := str_at hp (i := 0) rfl
  obtain ⟨kp, kc, hk2, hk3, hk4⟩ := kid_at hk (i := 0) rfl
  have h1' : iaddrM 1 (.t tp) (.t (.v (.int .i64 0))) = some (.t (.pt (sv p0 :: r0))) := h1
  have hk2' : iaddrM 4 (.t tk) (.t (.v (.int .i64 0))) = some (.t (.pt kp)) := hk2
  have hgw := gWr_eq (kids := [k]) hk4 (List.mem_singleton.2 rfl)
  obtain ⟨D, hD⟩ : ∃ D, D = dotted (p0 :: pr) := ⟨_, rfl⟩
  rw [← hD] at hW
  have hDl : D.length + (wrD k).length ≤ 999999997 := by rw [hW] at w7; simp only [List.length_cons, List.length_append, List.length_nil] at w7; omega
  have hD0 := hD
  rw [dotted_cons] at hD0
  have a1 := saddn 91 (s := p0) (by rw [hD0, List.length_append] at hDl; omega)
  unfold M_r19_written
  refine mc_seq_runs C ?_
  simp -implicitDefEqProofs [box_d]
  refine mc_cut (α := Unit) (fun _ => ⟨[], [], 0, 80⟩) (fun _ => False) (fun _ => rfl) ?_ (fun _ h => h.elim)
  refine mc_seq_runs C ?_
  simp -implicitDefEqProofs [dl0]
  refine mc_block ?_
  refine mc_seq_runs C ?_
  simp -implicitDefEqProofs
  refine mc_cond (t := false) rfl ?_
  simp only [Bool.false_eq_true, if_false]
  refine mc_seq_runs C ?_
  simp -implicitDefEqProofs
  refine mc_cond (t := false) rfl ?_
  simp only [Bool.false_eq_true, if_false]
  refine mc_seq_runs C ?_
  simp -implicitDefEqProofs
  refine mc_cond (t := false) rfl ?_
  simp only [Bool.false_eq_true, if_false]
  refine mc_seq_runs C ?_
  simp -implicitDefEqProofs
  refine mc_cond (t := false) rfl ?_
  simp only [Bool.false_eq_true, if_false]
  refine mc_seq_runs C ?_
  simp -implicitDefEqProofs
  refine mc_cond (t := true) rfl ?_
  simp only [if_true]
  refine mc_seq_runs C ?_
  simp -implicitDefEqProofs [dl2, h1', lh1, a1]
  refine mc_cut (α := Unit) (fun _ => ⟨[(3, .t (sv (bs (91 :: D)))), (1, .ptr 0 0)], [(0, dRow 5 name tp tk)], 1, 80⟩) (fun _ => True) (fun _ => rfl) ?_ ?_
  ·refine mc_seq_runs C ?_
   simp -implicitDefEqProofs
   refine mc_block ?_
   refine mc_while (α := Nat × List UInt8) (fun j => ⟨[(4, .t (iv (j.1 : Int))), (3, .t (sv (bs (91 :: j.2)))), (1, .ptr 0 0)], [(0, dRow 5 name tp tk)], 1, 80⟩) (fun j => (p0 :: pr).length - j.1) (fun j => j.1 ≤ (p0 :: pr).length ∧ j.2 ++ tailP ((p0 :: pr).drop j.1) = D) (1, p0.data.toList) (fun _ => rfl) ⟨by simp, by rw [hD0]; rfl⟩ (sub_env (by simp -implicitDefEqProofs)) rfl ?_
   rintro ⟨j, A⟩ ⟨hj, heq⟩
   dsimp only at hj heq
   have hlen : (A ++ tailP ((p0 :: pr).drop j)).length ≤ 999999997 := by rw [heq]; omega
   by_cases hlt : j < (p0 :: pr).length
   ·obtain ⟨x, hx⟩ : ∃ x, (p0 :: pr)[j]? = some x := ⟨_, List.getElem?_eq_getElem hlt⟩
    obtain ⟨r, h2⟩ := str_at hp hx
    rw [tail_step hx] at heq hlen
    simp only [List.length_append, List.length_cons] at hlen
    generalize (p0 :: pr) = path at *
    have hlt' : (j : Int) < (path.length : Int) := by omega
    obtain ⟨j1, hj1⟩ : ∃ j1, j1 = j + 1 := ⟨_, rfl⟩
    have ej : IntKind.i64.wrap ((j : Int) + 1) = (j1 : Int) := wrap_nat (by omega) (by omega)
    rw [← hj1] at heq
    have a1 := sadd (a := 91 :: A) (b := [46]) (by simp only [List.length_cons, List.length_nil]; omega)
    have a2 := saddr (a := (91 :: A) ++ [46]) (s := x) (by simp only [List.length_cons, List.length_append, List.length_nil]; omega)
    rw [show bs [46] = ⟨#[46]⟩ from rfl] at a1
    simp only [List.cons_append] at a1 a2
    refine mc_runs C ?_
    simp -implicitDefEqProofs [dl2, hlp, hlt, hlt', h2, lh1, a1, a2, ej]
    refine Abs.Next.mk (j1, A ++ 46 :: x.data.toList) ?_ ?_
    ·exact ⟨⟨by show j1 ≤ _; omega, by simpa using heq⟩, by show path.length - j1 < path.length - j; omega⟩
    ·exact sub_env (by simp -implicitDefEqProofs)
   ·have hje : j = (p0 :: pr).length := by omega
    rw [hje, List.drop_length] at heq
    simp only [tailP, List.append_nil] at heq
    generalize (p0 :: pr) = path at *
    have hlt' : ¬ (j : Int) < (path.length : Int) := by omega
    refine mc_runs C ?_
    simp -implicitDefEqProofs [dl2, hlp, hlt, hlt']
    exact Abs.Next.mk () trivial (sub_env (by simp -implicitDefEqProofs [heq]))
  ·rintro ⟨⟩ -
   have b1 := sadd (a := 91 :: D) (b := [32]) (by simp only [List.length_cons, List.length_nil]; omega)
   have b2 := sadd (a := (91 :: D) ++ [32]) (b := wrD k) (by simp only [List.length_cons, List.length_append, List.length_nil]; omega)
   have b3 := sadd (a := 91 :: (D ++ 32 :: wrD k)) (b := [93]) (by simp only [List.length_cons, List.length_append, List.length_nil]; omega)
   rw [show bs [32] = ⟨#[32]⟩ from rfl] at b1
   rw [show bs [93] = ⟨#[93]⟩ from rfl] at b3
   simp only [List.cons_append] at b1 b2 b3
   refine mc_runs C ?_
   simp -implicitDefEqProofs [dl3, hk2', hk3, hgw, b1, b2, b3]
   rw [hW]
 ·rw [if_neg (by decide), if_neg (by decide), if_neg (by decide), if_neg (by decide), if_neg (by decide), if_pos rfl] at hW
  have hJ : (wrL [44, 32] [44, 32] kids).length ≤ 999999998 := by rw [hW, List.length_cons, List.length_append, List.length_singleton] at w7; omega
  have gj : gJn kids [tk, sv ⟨#[44, 32]⟩, sv ⟨#[44, 32]⟩] = _ := gJn_eq hk [44, 32] [44, 32] (by omega)
  obtain ⟨J, hJe⟩ : ∃ J, J = wrL [44, 32] [44, 32] kids := ⟨_, rfl⟩
  rw [← hJe] at gj hJ hW
  have a1 := sadd (a := [60]) (b := J) (by simp; omega)
  have a2 := sadd (a := 60 :: J) (b := [62]) (by simp; omega)
  have hb : ∀ b : UInt8, bs [b] = ⟨#[b]⟩ := fun _ => rfl
  rw [hb] at a1
  rw [hb] at a2
  refine mc_runs C ?_
  simp -implicitDefEqProofs [M_r19_written, box_d, dl0, dl3, gj, a1, a2]
  rw [hW]
 ·rw [if_neg (by decide), if_neg (by decide), if_neg (by decide), if_neg (by decide), if_neg (by decide), if_neg (by decide), if_pos rfl] at hW
  have hJ : (wrL [44, 32] [32, 124, 32] kids).length ≤ 999999998 := by rw [hW, List.length_cons, List.length_append, List.length_singleton] at w7; omega
  have gj : gJn kids [tk, sv ⟨#[44, 32]⟩, sv ⟨#[32, 124, 32]⟩] = _ := gJn_eq hk [44, 32] [32, 124, 32] (by omega)
  obtain ⟨J, hJe⟩ : ∃ J, J = wrL [44, 32] [32, 124, 32] kids := ⟨_, rfl⟩
  rw [← hJe] at gj hJ hW
  have a1 := sadd (a := [60]) (b := J) (by simp; omega)
  have a2 := sadd (a := 60 :: J) (b := [62]) (by simp; omega)
  have hb : ∀ b : UInt8, bs [b] = ⟨#[b]⟩ := fun _ => rfl
  rw [hb] at a1
  rw [hb] at a2
  refine mc_runs C ?_
  simp -implicitDefEqProofs [M_r19_written, box_d, dl0, dl3, gj, a1, a2]
  rw [hW]
 ·rw [if_neg (by decide), if_neg (by decide), if_neg (by decide), if_neg (by decide), if_neg (by decide), if_neg (by decide), if_neg (by decide)] at hW
  by_cases h0 : kids.length = 0
  ·rw [if_pos h0] at hW
   have h0' : ((kids.length : Int) == 0) = true := by rw [h0]; rfl
   refine mc_runs C ?_
   simp -implicitDefEqProofs [M_r19_written, box_d, dl0, dl3, hlk, h0, h0']
   rw [hW]
  ·rw [if_neg h0] at hW
   have h0' : ((kids.length : Int) == 0) = false := beq_eq_false_iff_ne.2 (by omega)
   have hJ : (wrL [44, 32] [44, 32] kids).length ≤ 999999994 := by rw [hW] at w7; simp only [List.length_cons, List.length_append, List.length_nil] at w7; omega
   have gj : gJn kids [tk, sv ⟨#[44, 32]⟩, sv ⟨#[44, 32]⟩] = _ := gJn_eq hk [44, 32] [44, 32] (by omega)
   obtain ⟨J, hJe⟩ : ∃ J, J = wrL [44, 32] [44, 32] kids := ⟨_, rfl⟩
   rw [← hJe] at gj hJ hW
   have a1 := sadd (a := [60, 33, 32]) (b := J) (by simp; omega)
   have a2 := sadd (a := 60 :: 33 :: 32 :: J) (b := [32, 33, 62]) (by simp; omega)
   have hb1 : bs [60, 33, 32] = ⟨#[60, 33, 32]⟩ := rfl
   have hb2 : bs [32, 33, 62] = ⟨#[32, 33, 62]⟩ := rfl
   rw [hb1] at a1
   rw [hb2] at a2
   refine mc_runs C ?_
   simp -implicitDefEqProofs [M_r19_written, box_d, dl0, dl3, hlk, h0, h0', gj, a1, a2]
   rw [hW]
theorem written_all : ∀ {d : Ds}, Wr d → ∀ c, Abs.IsD d c → CallT Tryz.prog (G q) 40 [.ag c] (· = sv (bs (wrD d))) := fun h => by
 induction h with
 | mk op name path kids h1 h2 h3 h4 n1 n2 h5 h6 h7 h8 ih =>
  intro c hc
  refine written_call hc (.mk op name path kids h1 h2 h3 h4 n1 n2 h5 h6 h7 h8) (g1_ok fun a x r ha hr => ?_)
  split at hr
  ·rename_i hm
   injection hr with hr; subst hr
   obtain ⟨c', rfl, hd⟩ := ha
   exact ih x hm c' hd
  ·cases hr
noncomputable def gWn (ts : List T) : Option T := g1 tD (fun d => open Classical in if Wr d then some (sv (bs (wrD d))) else none) ts
theorem gWn_eq {c : List T} {d : Ds} (h : Abs.IsD d c) (hw : Wr d) : gWn [.ag c] = some (sv (bs (wrD d))) := by
 show g1 _ _ _ = _
 rw [g1_eq (τ := tD) (x := d) ⟨c, rfl, h⟩, if_pos hw]
theorem hWn : GOK Tryz.prog (G q) 40 gWn := g1_ok fun a x r ha hr => by
 split at hr
 ·rename_i hm
  injection hr with hr; subst hr
  obtain ⟨c', rfl, hd⟩ := ha
  exact written_all hm c' hd
 ·cases hr
def priT (d : Ds) : T := if checkE d 1 ≠ 0 then .tu [sv ⟨#[]⟩, iv (checkE d 1)] else if 65536 < (wrD d).length then .tu [sv ⟨#[]⟩, iv 7] else .tu [sv (bs (wrD d)), iv 0]
theorem rprint_call {c : List T} {d : Ds} (hd : Abs.IsD d c) (hs : Sized d) (hw : checkE d 1 = 0 → Wr d) :
  CallT Tryz.prog (G q) 23 [.ag c] (· = priT d) := by
 cases d with
 | mk op name path kids =>
 have hg := gCheck_eq hd hs
 have hgw : checkE (.mk op name path kids) 1 = 0 → gWn [.ag c] = some (sv (bs (wrD (.mk op name path kids)))) := fun h => gWn_eq hd (hw h)
 obtain ⟨tp, tk, rfl, hp, hk⟩ := hd.parts
 have C := (TblOK.cons (hRCheck (q := q)) (.cons hWn .nil)).ctx mixed
 refine k_r19_Print.call rfl ?_
 obtain ⟨R, hR⟩ : ∃ R, R = priT (.mk op name path kids) := ⟨_, rfl⟩
 rw [← hR]
 unfold priT at hR
 generalize checkE (.mk op name path kids) 1 = E at hg hR hw hgw
 by_cases he : E = 0
 ·subst he
  have hgw := hgw rfl
  rw [if_neg (by omega)] at hR
  have hwl : (wrD (.mk op name path kids)).length ≤ 1000000000 := (hw rfl).parts.2.2.2.2.2.2.2.2.1
  generalize wrD (.mk op name path kids) = W at hgw hR hwl
  have hsz : (bs W).size = W.length := rfl
  by_cases hl : 65536 < W.length
  ·rw [if_pos hl] at hR
   have hl' : (65536 : Int) < (W.length : Int) := by omega
   rw [hR]
   refine mc_runs C ?_
   simp -implicitDefEqProofs [M_r19_Print, box_d, dl4, hg, hgw, hsz, hl, hl']
  ·rw [if_neg hl] at hR
   have hl' : ¬ (65536 : Int) < (W.length : Int) := by omega
   rw [hR]
   refine mc_runs C ?_
   simp -implicitDefEqProofs [M_r19_Print, box_d, dl4, hg, hgw, hsz, hl, hl']
 ·rw [if_pos he] at hR
  have hb : (E != 0) = true := by simpa using he
  rw [hR]
  refine mc_runs C ?_
  simp -implicitDefEqProofs [M_r19_Print, box_d, dl4, hg, hb]
theorem dotted_len : ∀ (path : List ByteArray), (∀ s ∈ path, s.size ≤ 60) → (dotted path).length ≤ 61 * path.length
 | [], _ => by simp [dotted]
 | s :: r, h => by
  have h1 : s.data.toList.length ≤ 60 := h s (by simp)
  have ih := dotted_len r (fun x hx => h x (by simp [hx]))
  rw [dotted_cons, List.length_append, List.length_cons]
  have : (tailP r).length ≤ 1 + (dotted r).length := by
   cases r with
   | nil => simp [tailP]
   | cons y r => simp [tailP]; omega
  omega
theorem Small.parts {op : Int} {name : ByteArray} {path : List ByteArray} {kids : List Ds} (h : Small (.mk op name path kids)) : name.size ≤ 60 ∧ path.length ≤ 80 ∧ (∀ s ∈ path, s.size ≤ 60) ∧ kids.length ≤ 400 ∧ ∀ k ∈ kids, Small k := by
 cases h with
 | mk _ _ _ _ h1 h2 h3 h4 h5 => exact ⟨h1, h2, h3, h4, h5⟩
theorem sepOf_len {α β : Type} {sep last : List α} (h1 : sep.length ≤ 3) (h2 : last.length ≤ 3) (r : List β) : (sepOf sep last r).length ≤ 3 := by
 match r with
 | [] => simp [sepOf]
 | [_] => exact h2
 | _ :: _ :: _ => exact h1
mutual
theorem wrD_size : ∀ d : Ds, Small d → (wrD d).length + 3 ≤ 6000 * nodesD d
 | .mk op name path kids, h => by
  obtain ⟨h1, h2, h3, h4, h5⟩ := h.parts
  have hd := dotted_len path h3
  have hn : name.data.toList.length ≤ 60 := h1
  have k1 := wrL_size [32, 38, 32] [32, 38, 32] (by simp) (by simp) kids h5
  have k2 := wrL_size [] [] (by simp) (by simp) kids h5
  have k3 := wrL_size [44, 32] [44, 32] (by simp) (by simp) kids h5
  have k4 := wrL_size [44, 32] [32, 124, 32] (by simp) (by simp) kids h5
  rw [wrD, nodesD]
  split
  ·omega
  ·split
   ·rw [List.length_cons]; omega
   ·split
    ·rw [List.length_cons]; omega
    ·split
     ·omega
     ·split
      ·simp only [List.length_cons, List.length_append, List.length_nil]; omega
      ·split
       ·simp only [List.length_cons, List.length_append, List.length_nil]; omega
       ·split
        ·simp only [List.length_cons, List.length_append, List.length_nil]; omega
        ·split
         ·simp only [List.length_cons, List.length_nil]; omega
         ·simp only [List.length_cons, List.length_append, List.length_nil]; omega
theorem wrL_size (sep last : List UInt8) (h1 : sep.length ≤ 3) (h2 : last.length ≤ 3) : ∀ l : List Ds, (∀ k ∈ l, Small k) → (wrL sep last l).length ≤ 6000 * nodesL l
 | [], _ => by simp [wrL]
 | d :: r, h => by
  have i1 := wrD_size d (h d (by simp))
  have i2 := wrL_size sep last h1 h2 r (fun k hk => h k (by simp [hk]))
  have i3 := sepOf_len h1 h2 r
  rw [wrL, nodesL, List.length_append, List.length_append]
  omega
end
theorem nodes_kid {k : Ds} : ∀ {l : List Ds}, k ∈ l → nodesD k ≤ nodesL l
 | d :: r, h => by
  rw [nodesL]
  rcases List.mem_cons.1 h with rfl | h
  ·omega
  ·have := nodes_kid h; omega
theorem checkL_kid {k : Ds} {lv : Nat} : ∀ {l : List Ds}, checkL l lv = 0 → k ∈ l → checkE k lv = 0
 | d :: r, h, hk => by
  rw [checkL] at h
  split at h
  ·rename_i h1; exact absurd h h1
  ·rename_i h1
   rcases List.mem_cons.1 hk with rfl | hk
   ·exact Decidable.of_not_not h1
   ·exact checkL_kid h hk
theorem Small.wr : ∀ {d : Ds}, Small d → nodesD d ≤ 100000 → ∀ {lv : Nat}, checkE d lv = 0 → Wr d := fun h => by
 induction h with
 | mk op name path kids h1 h2 h3 h4 h5 ih =>
  intro hn lv hc
  have hsz := wrD_size _ (Small.mk op name path kids h1 h2 h3 h4 h5)
  rw [checkE] at hc
  split at hc
  ·omega
  ·rename_i hlv
   split at hc
   ·rename_i hf; exact absurd hc hf
   ·rename_i hf
    have hf := Decidable.of_not_not hf
    unfold formE at hf
    split at hf
    ·omega
    ·rename_i hop
     split at hf
     ·rename_i hB
      unfold formB at hB
      simp only [Bool.and_eq_true] at hB
      obtain ⟨⟨⟨b1, b2⟩, b3⟩, b4⟩ := hB
      rw [nodesD] at hn hsz
      refine .mk op name path kids (by omega) (by omega) (fun e => ?_) (fun e => ?_) (fun e => ?_) (fun e => ?_) (by omega) (by omega) (by omega) (fun k hk => ih k hk (by have := nodes_kid hk; omega) (checkL_kid hc hk))
      ·subst e
       refine ⟨?_, ?_⟩
       ·rintro rfl; simp at b2
       ·unfold kidsB at b4
        simpa [leafOp] using b4
      ·subst e
       unfold kidsB at b4
       simpa [leafOp] using b4
      ·subst e
       intro hz
       rw [if_pos (by rfl), named_empty hz] at b1
       cases b1
      ·subst e
       rintro rfl
       unfold kidsB at b4
       simp [leafOp] at b4
     ·omega
def geB (s x : ByteArray) : Bool := !(Op.bytesLess s.toList x.toList)
def neB (s x : ByteArray) : Bool := !(s.toList == x.toList)
def wiS (x : ByteArray) : Bool → List ByteArray → List ByteArray
 | put, [] => if put then [] else [x]
 | put, s :: r => (if !put && geB s x then [x] else []) ++ ((if neB s x then [s] else []) ++ wiS x (put || geB s x) r)
structure Wi where
 i : Nat
 put : Bool
 out : List ByteArray
def SWi (t : T) (x : ByteArray) (a : Wi) : AState := ⟨[(7, .t (iv (a.i : Int))), (6, .t (bv a.put)), (5, rowP eStr 0 a.out), (1, .t (sv x)), (0, .t t)], rowH eStr 9 0 a.out, 1, 48⟩
structure OkWi (l : List ByteArray) (x : ByteArray) (R : List ByteArray) (a : Wi) : Prop where
 le : a.i ≤ l.length
 ol : a.out.length ≤ 2 * a.i
 eq : a.out ++ wiS x a.put (l.drop a.i) = R
theorem app_one {H : Heap} {nx b : Nat} {l : List ByteArray} (s : ByteArray) (hr : RowAt eStr 9 H b l) (hl : l.length ≤ 1000000) (hb : b < nx) :
  ∃ b' H' nx', appM 9 1 16 ((nx, .cells 9 [.t (sv s)]) :: H) (nx + 1) (rowP eStr b l) (.row nx 0 1 1) = some (rowP eStr b' (l ++ [s]), H', nx') ∧ RowAt eStr 9 H' b' (l ++ [s]) ∧ b' ≠ nx' ∧ nx + 1 ≤ nx' := by
 have r0 : RowAt eStr 9 ((nx, .cells 9 [.t (sv s)]) :: H) b l := hr.cons (by omega)
 obtain ⟨b2, H2, n2, ap2, r2, ne2, hle2, hold, hb2⟩ := app_some (e := eStr) (ty := 9) (by' := 16) (nx := nx + 1) (m := [s]) r0 (src_one (e := eStr) (b := nx) (ty := 9) s (by rw [look_cons, if_pos rfl]; rfl)) (by simp; omega) (by simp; omega)
 exact ⟨b2, H2, n2, ap2, r2, ne2, hle2⟩
theorem end_row {R : T → Prop} {env : List (Nat × PV)} {H : Heap} {nx n a b : Nat} {m : List ByteArray} (hr : RowAt eStr 9 H b m) (h : Abs.look env a = some (rowP eStr b m)) (hR : R (treeS eStr m)) : EndsM [RV.tmp a] R .ret ⟨env, H, nx, n⟩ := by
 refine ends_of (ps := [rowP eStr b m]) (r := treeS eStr m) (F := lentS b m) ?_ hr.toT hR
 simp only [resM, h]
theorem with_call {t : T} {l : List ByteArray} (ht : IsS eStr t l) (hl : l.length ≤ 400000) (x : ByteArray) : CallT Tryz.prog (G q) 69 [t, sv x] (· = treeS eStr (wiS x false l)) := by
 have hlen : lenslM (.t t) = some (.t (iv (l.length : Int))) := ht.len
 obtain ⟨R, hR⟩ : ∃ R, R = wiS x false l := ⟨_, rfl⟩
 rw [← hR]
 refine k_r19_With.call rfl ?_
 unfold M_r19_With
 refine mc_seq_runs ctx00 ?_
 simp -implicitDefEqProofs
 refine mc_seq_runs ctx00 ?_
 simp -implicitDefEqProofs
 refine mc_seq_runs ctx00 ?_
 simp -implicitDefEqProofs
 refine mc_cut (α := Bool × List ByteArray) (fun a => ⟨[(6, .t (bv a.1)), (5, rowP eStr 0 a.2), (1, .t (sv x))], rowH eStr 9 0 a.2, 1, 48⟩) (fun a => a.2.length ≤ 800000 ∧ a.2 ++ (if a.1 then [] else [x]) = R) (fun _ => rfl) ?_ ?_
 ·refine mc_seq_runs ctx00 ?_
  simp -implicitDefEqProofs
  refine mc_block ?_
  refine mc_while (SWi t x) (fun a => l.length - a.i) (OkWi l x R) ⟨0, false, []⟩ (fun _ => rfl) ⟨Nat.zero_le _, by simp, hR.symm⟩ (sub_row1 (k := 0) (RowAt.nil _ _ _ _) (by omega) (by omega) (by simp -implicitDefEqProofs [rowP, ren, under])) rfl ?_
  rintro ⟨i, put, out⟩ ⟨hi, hol, heq⟩
  simp only at hi hol heq
  obtain ⟨H0, hH0⟩ : ∃ H0, H0 = rowH eStr 9 0 out := ⟨_, rfl⟩
  have r0 : RowAt eStr 9 H0 0 out := by rw [hH0]; exact RowAt.head' _ _ _ _
  have hS : SWi t x ⟨i, put, out⟩ = ⟨[(7, .t (iv (i : Int))), (6, .t (bv put)), (5, rowP eStr 0 out), (1, .t (sv x)), (0, .t t)], H0, 1, 48⟩ := by rw [hH0]; rfl
  rw [hS]
  by_cases hlt : i < l.length
  ·obtain ⟨s, hs⟩ : ∃ s, l[i]? = some s := ⟨_, List.getElem?_eq_getElem hlt⟩
   obtain ⟨r, h1⟩ := str_at ht hs
   have hlt' : (i : Int) < (l.length : Int) := by omega
   obtain ⟨i1, hi1⟩ : ∃ i1, i1 = i + 1 := ⟨_, rfl⟩
   have ei : IntKind.i64.wrap ((i : Int) + 1) = (i1 : Int) := wrap_nat (by omega) (by omega)
   have hse : l[i] = s := by rw [List.getElem?_eq_getElem hlt] at hs; injection hs
   rw [List.drop_eq_getElem_cons hlt, hse, wiS, ← hi1] at heq
   refine mc_seq_runs ctx00 ?_
   simp -implicitDefEqProofs [hlen, hlt, hlt']
   refine mc_cut (α := Bool × List ByteArray) (fun a => ⟨[(7, .t (iv (i : Int))), (6, .t (bv a.1)), (5, rowP eStr 0 a.2), (1, .t (sv x)), (0, .t t)], rowH eStr 9 0 a.2, 1, 48⟩) (fun a => a.2.length ≤ 2 * i1 ∧ a.2 ++ wiS x a.1 (l.drop i1) = R) (fun _ => rfl) ?_ ?_
   ·refine mc_block ?_
    refine mc_cut (α := Bool × List ByteArray) (fun a => ⟨[(7, .t (iv (i : Int))), (6, .t (bv a.1)), (5, rowP eStr 0 a.2), (1, .t (sv x)), (0, .t t)], rowH eStr 9 0 a.2, 1, 48⟩) (fun a => a.2.length ≤ 2 * i + 1 ∧ a.2 ++ ((if neB s x then [s] else []) ++ wiS x a.1 (l.drop i1)) = R) (fun _ => rfl) ?_ ?_
    ·cases put with
     | true =>
      refine mc_runs ctx00 ?_
      simp -implicitDefEqProofs
      refine Abs.Next.mk (true, out) ⟨by show out.length ≤ _; omega, by simpa using heq⟩ ?_
      rw [hH0]
      exact sub_env (by simp -implicitDefEqProofs)
     | false =>
      have kge : ∀ Φ H nx, evalK Φ H nx (.bin false .geq none) [.t (sv s), .t (sv x)] = some (.t (bv (geB s x)), H, nx) := fun _ _ _ => rfl
      cases hg : Op.bytesLess s.toList x.toList with
      | true =>
       have hge : geB s x = false := by unfold geB; rw [hg]; rfl
       rw [hge] at heq
       refine mc_runs ctx00 ?_
       simp -implicitDefEqProofs [h1, lh1, kge, hge]
       refine Abs.Next.mk (false, out) ⟨by show out.length ≤ _; omega, by simpa using heq⟩ ?_
       rw [hH0]
       exact sub_env (by simp -implicitDefEqProofs)
      | false =>
       have hge : geB s x = true := by unfold geB; rw [hg]; rfl
       rw [hge] at heq
       obtain ⟨b2, H2, n2, ap2, r2, ne2, le2⟩ := app_one (nx := 1) x r0 (by omega) (by omega)
       refine mc_runs ctx00 ?_
       simp -implicitDefEqProofs [h1, lh1, kge, hge, bsS, ap2]
       refine Abs.Next.mk (true, out ++ [x]) ⟨by simp; omega, by simpa using heq⟩ ?_
       exact sub_row1 (k := b2) r2 (by omega) (by omega) (by simp -implicitDefEqProofs [ren_rowP, under_rowP, ren, under])
    ·rintro ⟨put2, out2⟩ ⟨hol2, heq2⟩
     simp only at hol2 heq2
     obtain ⟨H3, hH3⟩ : ∃ H3, H3 = rowH eStr 9 0 out2 := ⟨_, rfl⟩
     have r3 : RowAt eStr 9 H3 0 out2 := by rw [hH3]; exact RowAt.head' _ _ _ _
     rw [← hH3]
     cases hn : (s.toList == x.toList) with
     | true =>
      have hne : neB s x = false := by unfold neB; rw [hn]; rfl
      rw [hne] at heq2
      refine mc_runs ctx00 ?_
      simp -implicitDefEqProofs [h1, lh1, hn]
      refine Abs.Next.mk (put2, out2) ⟨by show out2.length ≤ _; omega, by simpa using heq2⟩ ?_
      rw [hH3]
      exact sub_env (by simp -implicitDefEqProofs)
     | false =>
      have hne : neB s x = true := by unfold neB; rw [hn]; rfl
      rw [hne] at heq2
      obtain ⟨b2, H2, n2, ap2, r2, ne2, le2⟩ := app_one (nx := 1) s r3 (by omega) (by omega)
      refine mc_runs ctx00 ?_
      simp -implicitDefEqProofs [h1, lh1, hn, bsS, ap2]
      refine Abs.Next.mk (put2, out2 ++ [s]) ⟨by simp; omega, by simpa using heq2⟩ ?_
      exact sub_row1 (k := b2) r2 (by omega) (by omega) (by simp -implicitDefEqProofs [ren_rowP, under_rowP, ren, under])
   ·rintro ⟨put2, out2⟩ ⟨hol2, heq2⟩
    simp only at hol2 heq2
    refine mc_runs ctx00 ?_
    simp -implicitDefEqProofs [ei]
    refine Abs.Next.mk (⟨i1, put2, out2⟩ : Wi) ⟨⟨by show i1 ≤ _; omega, hol2, heq2⟩, by show l.length - i1 < l.length - i; omega⟩ ?_
    exact sub_env (by simp -implicitDefEqProofs)
  ·have hlt' : ¬ (i : Int) < (l.length : Int) := by omega
   rw [List.drop_eq_nil_of_le (by omega), wiS] at heq
   refine mc_runs ctx00 ?_
   simp -implicitDefEqProofs [hlen, hlt, hlt']
   refine Abs.Next.mk (put, out) ⟨by show out.length ≤ _; omega, heq⟩ ?_
   rw [hH0]
   exact sub_env (by simp -implicitDefEqProofs)
 ·rintro ⟨put, out⟩ ⟨hol, heq⟩
  simp only at hol heq
  obtain ⟨H0, hH0⟩ : ∃ H0, H0 = rowH eStr 9 0 out := ⟨_, rfl⟩
  have r0 : RowAt eStr 9 H0 0 out := by rw [hH0]; exact RowAt.head' _ _ _ _
  rw [← hH0]
  cases put with
  | true =>
   have heq : out = R := by simpa using heq
   refine mc_runs ctx00 ?_
   simp -implicitDefEqProofs [-endsM_ret]
   exact end_row r0 rfl (by rw [← heq])
  | false =>
   have heq : out ++ [x] = R := by simpa using heq
   obtain ⟨b2, H2, n2, ap2, r2, ne2, le2⟩ := app_one (nx := 1) x r0 (by omega) (by omega)
   refine mc_runs ctx00 ?_
   simp -implicitDefEqProofs [bsS, ap2, -endsM_ret]
   exact end_row r2 rfl (by rw [← heq])
mutual
def nmD (o : Int) : Ds → List ByteArray → List ByteArray
 | .mk op name _ kids, acc => nmL o kids (if op = o then wiS name false acc else acc)
def nmL (o : Int) : List Ds → List ByteArray → List ByteArray
 | [], acc => acc
 | d :: r, acc => nmL o r (nmD o d acc)
end
theorem wiS_len (x : ByteArray) : ∀ (l : List ByteArray) (put : Bool), (wiS x put l).length ≤ l.length + (if put then 0 else 1)
 | [], put => by cases put <;> simp [wiS]
 | s :: r, put => by
  have i := wiS_len x r (put || geB s x)
  rw [wiS, List.length_append, List.length_append, List.length_cons]
  have h1 : (if neB s x then [s] else []).length ≤ 1 := by split <;> simp
  cases put <;> cases hg : geB s x <;> rw [hg] at i <;> simp at i ⊢ <;> omega
mutual
theorem nmD_len (o : Int) : ∀ (d : Ds) (acc : List ByteArray), (nmD o d acc).length ≤ acc.length + nodesD d
 | .mk op name _ kids, acc => by
  have i := nmL_len o kids (if op = o then wiS name false acc else acc)
  have h := wiS_len name acc false
  rw [nmD, nodesD]
  split at i
  ·rename_i e; rw [if_pos e]; simp at h; omega
  ·rename_i e; rw [if_neg e]; omega
theorem nmL_len (o : Int) : ∀ (l : List Ds) (acc : List ByteArray), (nmL o l acc).length ≤ acc.length + nodesL l
 | [], acc => by rw [nmL, nodesL]; exact Nat.le_refl _
 | d :: r, acc => by
  have i1 := nmD_len o d acc
  have i2 := nmL_len o r (nmD o d acc)
  rw [nmL, nodesL]; omega
end
noncomputable def gWi (ts : List T) : Option T := g2 (tSl eStr) tStr (fun l x => if l.length ≤ 400000 then some (treeS eStr (wiS x false l)) else none) ts
theorem gWi_eq {t : T} {l : List ByteArray} (h : IsS eStr t l) (hl : l.length ≤ 400000) (x : ByteArray) : gWi [t, sv x] = some (treeS eStr (wiS x false l)) := by
 show g2 _ _ _ _ = _
 rw [g2_eq (τ := tSl eStr) (σ := tStr) (x := l) (y := x) h rfl, if_pos hl]
theorem hWi : GOK Tryz.prog (G q) 69 gWi := g2_ok fun a b l x r ha hb hr => by
 have e2 : b = .v (.string x) := hb
 subst e2
 split at hr
 ·rename_i hc
  injection hr with hr; subst hr
  exact with_call ha hc x
 ·cases hr
def tSlC {α : Type} (e : Enc α) : Ty (List α) := ⟨fun t l => t = treeS e l, fun t a b h h' => (tSl e).uniq t a b (h ▸ IsS.tree e a) (h' ▸ IsS.tree e b)⟩
noncomputable def gNm (kids : List Ds) (ts : List T) : Option T := g3 tD tInt (tSlC eStr) (fun d o acc => open Classical in if d ∈ kids ∧ acc.length + nodesD d ≤ 300000 then some (treeS eStr (nmD o d acc)) else none) ts
theorem gNm_eq {kids : List Ds} {c : List T} {d : Ds} (h : Abs.IsD d c) (hm : d ∈ kids) (o : Int) {acc : List ByteArray} (hl : acc.length + nodesD d ≤ 300000) : gNm kids [.ag c, iv o, treeS eStr acc] = some (treeS eStr (nmD o d acc)) := by
 show g3 _ _ _ _ _ = _
 rw [g3_eq (τ := tD) (σ := tInt) (ρ := tSlC eStr) (x := d) (y := o) (z := acc) ⟨c, rfl, h⟩ rfl rfl, if_pos ⟨hm, hl⟩]
structure Nm where
 j : Nat
 acc : List ByteArray
def SNm (op : Int) (name : ByteArray) (tp tk : T) (o : Int) (a : Nm) : AState := ⟨[(7, .t (iv (a.j : Int))), (3, .ptr 0 0), (1, .t (iv o)), (2, .t (treeS eStr a.acc))], [(0, dRow op name tp tk)], 1, 32⟩
structure OkNm (kids : List Ds) (o : Int) (R : List ByteArray) (a : Nm) : Prop where
 le : a.j ≤ kids.length
 ln : a.acc.length + nodesL (kids.drop a.j) ≤ 300000
 eq : nmL o (kids.drop a.j) a.acc = R
theorem rnamed_call {op : Int} {name : ByteArray} {path : List ByteArray} {kids : List Ds} {c : List T} (hd : Abs.IsD (.mk op name path kids) c) (hkl : kids.length ≤ 1000) (hrec : GOK Tryz.prog (G q) 44 (gNm kids)) (o : Int) {acc : List ByteArray} (hl : acc.length + nodesD (.mk op name path kids) ≤ 300000) :
  CallT Tryz.prog (G q) 44 [.ag c, iv o, treeS eStr acc] (· = treeS eStr (nmD o (.mk op name path kids) acc)) := by
 obtain ⟨tp, tk, rfl, hp, hk⟩ := hd.parts
 have C := (TblOK.cons hrec (.cons hWi .nil)).ctx mixed
 have hlk : lenslM (.t tk) = some (.t (iv (kids.length : Int))) := hk.len
 obtain ⟨R, hR⟩ : ∃ R, R = nmD o (.mk op name path kids) acc := ⟨_, rfl⟩
 rw [← hR]
 rw [nmD] at hR
 rw [nodesD] at hl
 obtain ⟨acc1, hacc1⟩ : ∃ acc1, acc1 = if op = o then wiS name false acc else acc := ⟨_, rfl⟩
 rw [← hacc1] at hR
 have hwl := wiS_len name acc false
 refine k_r19_Named.call rfl ?_
 unfold M_r19_Named
 refine mc_seq_runs C ?_
 simp -implicitDefEqProofs [box_d]
 refine mc_cut (α := Unit) (fun _ => ⟨[(3, .ptr 0 0), (1, .t (iv o)), (2, .t (treeS eStr acc1))], [(0, dRow op name tp tk)], 1, 32⟩) (fun _ => True) (fun _ => rfl) ?_ ?_
 ·by_cases ho : op = o
  ·have hb : (op == o) = true := by simpa using ho
   rw [if_pos ho] at hacc1
   have hg := gWi_eq (IsS.tree eStr acc) (by omega) name
   rw [← hacc1] at hg
   refine mc_runs C ?_
   simp -implicitDefEqProofs [dl0, dl1, hb, ho, hg]
   exact Abs.Next.mk () trivial (sub_env (by simp -implicitDefEqProofs [ho]))
  ·have hb : (op == o) = false := by simpa using ho
   rw [if_neg ho] at hacc1
   refine mc_runs C ?_
   simp -implicitDefEqProofs [dl0, hb, ho]
   exact Abs.Next.mk () trivial (sub_env (by simp -implicitDefEqProofs [hacc1]))
 ·rintro ⟨⟩ -
  have ha1 : acc1.length + nodesL kids ≤ 300000 := by
   rw [hacc1]
   split
   ·simp at hwl; omega
   ·omega
  refine mc_cut (α := Unit) (fun _ => ⟨[(2, .t (treeS eStr R))], [], 1, 32⟩) (fun _ => True) (fun _ => rfl) ?_ ?_
  ·refine mc_seq_runs C ?_
   simp -implicitDefEqProofs
   refine mc_block ?_
   refine mc_while (SNm op name tp tk o) (fun a => kids.length - a.j) (OkNm kids o R) ⟨0, acc1⟩ (fun _ => rfl) ⟨Nat.zero_le _, by simpa using ha1, by rw [List.drop_zero]; exact hR.symm⟩ (sub_env (by simp -implicitDefEqProofs)) rfl ?_
   rintro ⟨j, ac⟩ ⟨hj, hln, heq⟩
   simp only at hj hln heq
   by_cases hlt : j < kids.length
   ·obtain ⟨x, hx⟩ : ∃ x, kids[j]? = some x := ⟨_, List.getElem?_eq_getElem hlt⟩
    obtain ⟨kp, ci, h1, h2, h3⟩ := kid_at hk hx
    have hlt' : (j : Int) < (kids.length : Int) := by omega
    have hxe : kids[j] = x := by rw [List.getElem?_eq_getElem hlt] at hx; injection hx
    rw [List.drop_eq_getElem_cons hlt, hxe] at heq hln
    rw [nmL] at heq
    rw [nodesL] at hln
    have hg := gNm_eq (kids := kids) h3 (List.mem_of_getElem? hx) o (acc := ac) (by omega)
    have hnl := nmD_len o x ac
    obtain ⟨j1, hj1⟩ : ∃ j1, j1 = j + 1 := ⟨_, rfl⟩
    have ej : IntKind.i64.wrap ((j : Int) + 1) = (j1 : Int) := wrap_nat (by omega) (by omega)
    rw [← hj1] at heq hln
    refine mc_runs C ?_
    simp -implicitDefEqProofs [SNm, dl3, hlk, hlt, hlt', h1, h2, hg, ej]
    refine Abs.Next.mk (⟨j1, nmD o x ac⟩ : Nm) ⟨⟨by show j1 ≤ _; omega, by show (nmD o x ac).length + nodesL (kids.drop j1) ≤ _; omega, heq⟩, by show kids.length - j1 < kids.length - j; omega⟩ ?_
    exact sub_env (by simp -implicitDefEqProofs)
   ·have hlt' : ¬ (j : Int) < (kids.length : Int) := by omega
    rw [List.drop_eq_nil_of_le (by omega), nmL] at heq
    refine mc_runs C ?_
    simp -implicitDefEqProofs [SNm, dl3, hlk, hlt, hlt']
    exact Abs.Next.mk () trivial (sub_forget rfl rfl (by simp -implicitDefEqProofs [heq]) (by simp -implicitDefEqProofs))
  ·rintro ⟨⟩ -
   refine mc_runs C ?_
   simp -implicitDefEqProofs
theorem rnamed_all : ∀ {d : Ds}, Sized d → ∀ (c : List T) (o : Int) (acc : List ByteArray), Abs.IsD d c → acc.length + nodesD d ≤ 300000 → CallT Tryz.prog (G q) 44 [.ag c, iv o, treeS eStr acc] (· = treeS eStr (nmD o d acc)) := fun h => by
 induction h with
 | mk op name path kids h1 h2 h3 h4 h5 ih =>
  intro c o acc hc hl
  refine rnamed_call hc h4 (g3_ok fun a b c x y z r ha hb hc hr => ?_) o hl
  split at hr
  ·rename_i hm
   injection hr with hr; subst hr
   obtain ⟨c', rfl, hd⟩ := ha
   cases hb
   cases hc
   exact ih x hm.1 c' y z hd hm.2
  ·cases hr
noncomputable def gNd (ts : List T) : Option T := g3 tD tInt (tSlC eStr) (fun d o acc => open Classical in if Sized d ∧ acc.length + nodesD d ≤ 300000 then some (treeS eStr (nmD o d acc)) else none) ts
theorem gNd_eq {c : List T} {d : Ds} (h : Abs.IsD d c) (hs : Sized d) (o : Int) {acc : List ByteArray} (hl : acc.length + nodesD d ≤ 300000) : gNd [.ag c, iv o, treeS eStr acc] = some (treeS eStr (nmD o d acc)) := by
 show g3 _ _ _ _ _ = _
 rw [g3_eq (τ := tD) (σ := tInt) (ρ := tSlC eStr) (x := d) (y := o) (z := acc) ⟨c, rfl, h⟩ rfl rfl, if_pos ⟨hs, hl⟩]
theorem hNd : GOK Tryz.prog (G q) 44 gNd := g3_ok fun a b c x y z r ha hb hc hr => by
 split at hr
 ·rename_i hm
  injection hr with hr; subst hr
  obtain ⟨c', rfl, hd⟩ := ha
  cases hb
  cases hc
  exact rnamed_all hm.1 c' y z hd hm.2
 ·cases hr
def namT (d : Ds) : T := .tu [treeS eStr (nmD 1 d []), treeS eStr (nmD 2 d [])]
theorem rnames_call {c : List T} {d : Ds} (hd : Abs.IsD d c) (hs : Sized d) (hn : nodesD d ≤ 300000) : CallT Tryz.prog (G q) 25 [.ag c] (· = namT d) := by
 cases d with
 | mk op name path kids =>
 have g1 := gNd_eq hd hs 1 (acc := []) (by simpa using hn)
 have g2 := gNd_eq hd hs 2 (acc := []) (by simpa using hn)
 obtain ⟨tp, tk, rfl, hp, hk⟩ := hd.parts
 have C := (TblOK.cons (hNd (q := q)) .nil).ctx mixed
 rw [show treeS eStr ([] : List ByteArray) = nilS from rfl] at g1 g2
 unfold namT
 generalize treeS eStr (nmD 1 (.mk op name path kids) []) = t1 at g1
 generalize treeS eStr (nmD 2 (.mk op name path kids) []) = t2 at g2
 refine k_r19_Names.call rfl ?_
 refine mc_runs C ?_
 simp -implicitDefEqProofs [M_r19_Names, box_d, dl4, g1, g2]
end Go.Proofs.YtjkkgbdoeaihmaaGreatDoor
