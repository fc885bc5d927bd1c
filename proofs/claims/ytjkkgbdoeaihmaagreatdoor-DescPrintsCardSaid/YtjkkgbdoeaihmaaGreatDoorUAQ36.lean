/-
 Auxiliary facts. No statement of the program stands here.
-/
import Derived.Test.YtjkkgbdoeaihmaaGreatDoorUAQ35
import Derived.Test.YtjkkgbdoeaihmaaGreatDoorUAQ30
import Derived.Test.YtjkkgbdoeaihmaaGreatDoorUAQ28
namespace Go.Proofs.YtjkkgbdoeaihmaaGreatDoor
set_option linter.unusedSimpArgs false
set_option linter.unusedVariables false
open Go Go.Abs
variable {q : Gl}
theorem write_ok {op : Int} {name : ByteArray} {path : List ByteArray} {kids : List Ds} (hwr : Wr (.mk op name path kids)) (hkids : ∀ k ∈ kids, WrOK q k) : WrOK q (.mk op name path kids) := fun c p l hc hp hl => by
 obtain ⟨w1, w2, w3, w4, wn1, wn2, w5, w6, w7, w8⟩ := hwr.parts
 have hw : ∀ k ∈ kids, WrOK q k ∧ Wr k := fun k hk => ⟨hkids k hk, w8 k hk⟩
 obtain ⟨tp, tk, rfl, hpa, hk⟩ := hc.parts
 obtain ⟨W, hW⟩ : ∃ W, W = wrD (.mk op name path kids) := ⟨_, rfl⟩
 rw [← hW] at hl ⊢
 rw [wrD] at hW
 obtain ⟨H1, hH1⟩ : ∃ H1, H1 = ((3, dRow op name tp tk) :: (2, boxB) :: (0, bldR p 1 l) :: rowH eB tyU 1 l : Heap) := ⟨_, rfl⟩
 have ws1 : WS H1 1 p l op name tp tk := by
  rw [hH1]
  refine ⟨rfl, rfl, rfl, ?_, hp⟩
  exact (((RowAt.head' eB tyU 1 l).cons (by omega)).cons (by omega)).cons (by omega)
 have hop : op = 1 ∨ op = 2 ∨ op = 3 ∨ op = 4 ∨ op = 5 ∨ op = 6 ∨ op = 7 ∨ op = 8 := by omega
 refine k_desc_write.callP rfl ?_
 unfold M_desc_write
 refine mc_seq_runs ctx00 ?_
 simp -implicitDefEqProofs [box_d]
 have mk1 : exM (.mkf (.func 63) 0) [PV.ptr 2 0] = some (.fn (.func 63) [] [.ptr 2 0]) := rfl
 refine mc_seq_runs ctx00 ?_
 simp -implicitDefEqProofs [mk1]
 refine MC.sub (s' := ⟨[(4, .fn (.func 63) [] [.ptr 2 0]), (3, .ptr 3 0), (2, .ptr 2 0)], H1, 4, 100⟩) (by rw [hH1]; exact sub_env (by simp -implicitDefEqProofs)) rfl ?_
 have d0 := ws1.d0
 have d1 := ws1.d1
 have d2 := ws1.d2
 have d3 := ws1.d3
 have b1 := ws1.ld
 have hWl : W.length ≤ 1000000000 := by omega
 obtain ⟨m, hm⟩ : ∃ m, m = l ++ W := ⟨_, rfl⟩
 rw [← hm]
 -- one write from H1
 have one : ∀ s : List UInt8, s ≠ [] → s.length ≤ 1000000000 → ∃ t H2, WS H2 4 (.ptr 0 0) (l ++ s) op name tp tk ∧ HOK Tryz.prog (G q) 64 t ∧ t [.ptr 0 0, .t (sv (bs s))] H1 4 = some (.t (.tu [iv (s.length : Int), .v .nilIface]), H2, 5) := fun s hs hsl =>
  ⟨_, _, ws1.next (by omega) (by omega) (by omega) (by omega), ctx_ws ws1.r0 ws1.hp ws1.rg hs (by omega) (by omega), hOne_eq _ _ _ _⟩
 rcases hop with rfl | rfl | rfl | rfl | rfl | rfl | rfl | rfl
 ·rw [if_pos rfl] at hW
  have hne : name.data.toList ≠ [] := fun h => wn1 rfl (by have : name.data.toList.length = name.size := rfl; rw [h] at this; exact this.symm)
  obtain ⟨t, H2, ws2, hok, e⟩ := one name.data.toList hne (by rw [← hW]; exact hWl)
  rw [bs_data] at e
  rw [← hW, ← hm] at ws2
  have C := TblOK.nil.ctxH (HTblOK.cons hok .nil) mixed
  refine mc_runs C ?_
  simp -implicitDefEqProofs [d0, d1, b1, e]
  exact ws2.fin (by omega) (.inl rfl) 100
 ·rw [if_neg (by decide), if_pos rfl] at hW
  have a1 := saddn 64 (s := name) (by rw [hW, List.length_cons] at hWl; omega)
  obtain ⟨t, H2, ws2, hok, e⟩ := one W (by rw [hW]; simp) hWl
  rw [← hm] at ws2
  rw [← hW] at a1
  have C := TblOK.nil.ctxH (HTblOK.cons hok .nil) mixed
  refine mc_runs C ?_
  simp -implicitDefEqProofs [d0, d1, b1, a1, e]
  exact ws2.fin (by omega) (.inl rfl) 100
 ·rw [if_neg (by decide), if_neg (by decide), if_pos rfl] at hW
  have a1 := saddn 35 (s := name) (by rw [hW, List.length_cons] at hWl; omega)
  obtain ⟨t, H2, ws2, hok, e⟩ := one W (by rw [hW]; simp) hWl
  rw [← hm] at ws2
  rw [← hW] at a1
  have C := TblOK.nil.ctxH (HTblOK.cons hok .nil) mixed
  refine mc_runs C ?_
  simp -implicitDefEqProofs [d0, d1, b1, a1, e]
  exact ws2.fin (by omega) (.inl rfl) 100
 ·rw [if_neg (by decide), if_neg (by decide), if_neg (by decide), if_pos rfl] at hW
  have hne := wn2 rfl
  have hmne : l ++ wrL [32, 38, 32] [32, 38, 32] kids ≠ [] := by
   rw [← hW]
   have := wrD_ne hwr
   rw [wrD, if_neg (by decide), if_neg (by decide), if_neg (by decide), if_pos rfl, ← hW] at this
   simp [this]
  obtain ⟨t, H2, ws2, hok, e⟩ := ws1.kids (q := q) (nx := 4) (by omega) (by omega) (by omega) (by omega) (by omega) hw w6 hk [32, 38, 32] (.inl (by simp)) (fun _ => hne) hmne (by rw [← hW]; exact hl)
  rw [← hW, ← hm] at ws2
  rw [show bs [32, 38, 32] = ⟨#[32, 38, 32]⟩ from rfl] at e
  have C := TblOK.nil.ctxH (HTblOK.cons hok .nil) mixed
  refine mc_runs C ?_
  simp -implicitDefEqProofs [d0, d3, e]
  exact ws2.fin (by omega) (.inl rfl) 100
 ·rw [if_neg (by decide), if_neg (by decide), if_neg (by decide), if_neg (by decide), if_pos rfl] at hW
  obtain ⟨hpne, hk1⟩ := w3 rfl
  obtain ⟨D, hD⟩ : ∃ D, D = dotted path := ⟨_, rfl⟩
  obtain ⟨J, hJ⟩ : ∃ J, J = wrL [] [] kids := ⟨_, rfl⟩
  rw [← hD, ← hJ] at hW
  have hJl : D.length + J.length + 3 = W.length := by rw [hW]; simp; omega
  have gj := gJo_eq hpa w5 (by rw [← hD]; omega)
  rw [← hD] at gj
  have a1 := sadd (a := [91]) (b := D) (by simp; omega)
  have a2 := sadd (a := 91 :: D) (b := [32]) (by simp; omega)
  rw [show bs [91] = ⟨#[91]⟩ from rfl] at a1
  rw [show bs [32] = ⟨#[32]⟩ from rfl] at a2
  simp only [List.cons_append, List.nil_append] at a1 a2
  obtain ⟨t2, H2, ws2, hok2, e2⟩ := ws1.write (q := q) (nx := 4) (s := 91 :: (D ++ [32])) (by omega) (by omega) (by omega) (by omega) (by simp) (by simp; omega)
  obtain ⟨t3, H3, ws3, hok3, e3⟩ := ws2.kids (q := q) (nx := 5) (by omega) (by omega) (by omega) (by omega) (by omega) hw w6 hk [] (.inr (by omega)) (fun h => (by cases h)) (by simp) (by rw [← hJ, List.length_append]; simp; omega)
  rw [← hJ] at ws3
  obtain ⟨t4, H4, ws4, hok4, e4⟩ := ws3.write (q := q) (nx := 6) (s := [93]) (by omega) (by omega) (by omega) (by omega) (by simp) (by simp; omega)
  have hfin : l ++ 91 :: (D ++ [32]) ++ J ++ [93] = m := by rw [hm, hW]; simp
  rw [hfin] at ws4
  rw [show bs [] = ⟨#[]⟩ from rfl] at e3
  rw [show bs [93] = ⟨#[93]⟩ from rfl] at e4
  have b2 := ws2.ld
  have c3 := ws2.d3
  have b3 := ws3.ld
  refine mc_seq_runs ctx00 ?_
  simp -implicitDefEqProofs [d0]
  refine mc_block ?_
  refine mc_seq_runs ctx00 ?_
  simp -implicitDefEqProofs
  refine mc_cond (t := false) rfl ?_
  simp only [Bool.false_eq_true, if_false]
  refine mc_seq_runs ctx00 ?_
  simp -implicitDefEqProofs
  refine mc_cond (t := false) rfl ?_
  simp only [Bool.false_eq_true, if_false]
  refine mc_seq_runs ctx00 ?_
  simp -implicitDefEqProofs
  refine mc_cond (t := false) rfl ?_
  simp only [Bool.false_eq_true, if_false]
  refine mc_seq_runs ctx00 ?_
  simp -implicitDefEqProofs
  refine mc_cond (t := false) rfl ?_
  simp only [Bool.false_eq_true, if_false]
  refine mc_seq_runs ctx00 ?_
  simp -implicitDefEqProofs
  refine mc_cond (t := true) rfl ?_
  simp only [if_true]
  refine mc_seq_runs ((TblOK.cons (hJo (q := q)) .nil).ctxH (HTblOK.cons hok2 .nil) mixed) ?_
  simp -implicitDefEqProofs [b1, d2, gj, a1, a2, e2]
  refine mc_seq_runs (TblOK.nil.ctxH (HTblOK.cons hok3 .nil) mixed) ?_
  simp -implicitDefEqProofs [c3, e3]
  refine mc_runs (TblOK.nil.ctxH (HTblOK.cons hok4 .nil) mixed) ?_
  simp -implicitDefEqProofs [b3, e4]
  exact ws4.fin (by omega) (.inl rfl) 100
 ·rw [if_neg (by decide), if_neg (by decide), if_neg (by decide), if_neg (by decide), if_neg (by decide), if_pos rfl] at hW
  obtain ⟨J, hJ⟩ : ∃ J, J = wrL [44, 32] [44, 32] kids := ⟨_, rfl⟩
  rw [← hJ] at hW
  have hJl : J.length + 2 = W.length := by rw [hW]; simp
  obtain ⟨t2, H2, ws2, hok2, e2⟩ := ws1.write (q := q) (nx := 4) (s := [60]) (by omega) (by omega) (by omega) (by omega) (by simp) (by simp; omega)
  obtain ⟨t3, H3, ws3, hok3, e3⟩ := ws2.kids (q := q) (nx := 5) (by omega) (by omega) (by omega) (by omega) (by omega) hw w6 hk [44, 32] (.inl (by simp)) (fun h => (by cases h)) (by simp) (by rw [← hJ, List.length_append]; simp; omega)
  rw [← hJ] at ws3
  obtain ⟨t4, H4, ws4, hok4, e4⟩ := ws3.write (q := q) (nx := 6) (s := [62]) (by omega) (by omega) (by omega) (by omega) (by simp) (by simp; omega)
  have hfin : l ++ [60] ++ J ++ [62] = m := by rw [hm, hW]; simp
  rw [hfin] at ws4
  rw [show bs [60] = ⟨#[60]⟩ from rfl] at e2
  rw [show bs [44, 32] = ⟨#[44, 32]⟩ from rfl] at e3
  rw [show bs [62] = ⟨#[62]⟩ from rfl] at e4
  have b2 := ws2.ld
  have c3 := ws2.d3
  have b3 := ws3.ld
  refine mc_seq_runs ctx00 ?_
  simp -implicitDefEqProofs [d0]
  refine mc_block ?_
  refine mc_seq_runs ctx00 ?_
  simp -implicitDefEqProofs
  refine mc_cond (t := false) rfl ?_
  simp only [Bool.false_eq_true, if_false]
  refine mc_seq_runs ctx00 ?_
  simp -implicitDefEqProofs
  refine mc_cond (t := false) rfl ?_
  simp only [Bool.false_eq_true, if_false]
  refine mc_seq_runs ctx00 ?_
  simp -implicitDefEqProofs
  refine mc_cond (t := false) rfl ?_
  simp only [Bool.false_eq_true, if_false]
  refine mc_seq_runs ctx00 ?_
  simp -implicitDefEqProofs
  refine mc_cond (t := false) rfl ?_
  simp only [Bool.false_eq_true, if_false]
  refine mc_seq_runs ctx00 ?_
  simp -implicitDefEqProofs
  refine mc_cond (t := false) rfl ?_
  simp only [Bool.false_eq_true, if_false]
  refine mc_seq_runs ctx00 ?_
  simp -implicitDefEqProofs
  refine mc_cond (t := true) rfl ?_
  simp only [if_true]
  refine mc_seq_runs (TblOK.nil.ctxH (HTblOK.cons hok2 .nil) mixed) ?_
  simp -implicitDefEqProofs [b1, e2]
  refine mc_seq_runs (TblOK.nil.ctxH (HTblOK.cons hok3 .nil) mixed) ?_
  simp -implicitDefEqProofs [c3, e3]
  refine mc_runs (TblOK.nil.ctxH (HTblOK.cons hok4 .nil) mixed) ?_
  simp -implicitDefEqProofs [b3, e4]
  exact ws4.fin (by omega) (.inl rfl) 100
 ·rw [if_neg (by decide), if_neg (by decide), if_neg (by decide), if_neg (by decide), if_neg (by decide), if_neg (by decide), if_pos rfl, wrL_cut [44, 32] [32, 124, 32] (w4 rfl)] at hW
  have h2k := w4 rfl
  have hkne : kids ≠ [] := by rintro rfl; simp at h2k
  obtain ⟨n, hn⟩ : ∃ n, n = kids.length - 1 := ⟨_, rfl⟩
  rw [← hn] at hW
  obtain ⟨t1, t2, s1, s2, i1, i2⟩ := IsK.cut hk hkne (n := n) (by omega)
  obtain ⟨J, hJ⟩ : ∃ J, J = wrL [44, 32] [44, 32] (kids.take n) := ⟨_, rfl⟩
  obtain ⟨J2, hJ2⟩ : ∃ J2, J2 = wrL [] [] (kids.drop n) := ⟨_, rfl⟩
  rw [← hJ, ← hJ2] at hW
  have hJl : J.length + J2.length + 5 = W.length := by rw [hW]; simp; omega
  have hlk : lenslM (.t tk) = some (.t (iv (kids.length : Int))) := hk.len
  have en : IntKind.i64.wrap ((kids.length : Int) - 1) = (n : Int) := wrap_nat (by omega) (by omega)
  obtain ⟨t3, H3, ws3, hok3, e3⟩ := ws1.write (q := q) (nx := 4) (s := [60]) (by omega) (by omega) (by omega) (by omega) (by simp) (by simp; omega)
  obtain ⟨t4, H4, ws4, hok4, e4⟩ := ws3.kids (q := q) (nx := 5) (by omega) (by omega) (by omega) (by omega) (by omega) (fun k h => hw k (List.mem_of_mem_take h)) (by rw [List.length_take]; omega) i1 [44, 32] (.inl (by simp)) (fun h => (by cases h)) (by simp) (by rw [← hJ, List.length_append]; simp; omega)
  rw [← hJ] at ws4
  obtain ⟨t5, H5, ws5, hok5, e5⟩ := ws4.write (q := q) (nx := 6) (s := [32, 124, 32]) (by omega) (by omega) (by omega) (by omega) (by simp) (by simp; omega)
  obtain ⟨t6, H6, ws6, hok6, e6⟩ := ws5.kids (q := q) (nx := 7) (by omega) (by omega) (by omega) (by omega) (by omega) (fun k h => hw k (List.mem_of_mem_drop h)) (by rw [List.length_drop]; omega) i2 [] (.inr (by rw [List.length_drop]; omega)) (fun h => (by cases h)) (by simp) (by rw [← hJ2]; simp only [List.length_append, List.length_cons, List.length_nil]; omega)
  rw [← hJ2] at ws6
  obtain ⟨t7, H7, ws7, hok7, e7⟩ := ws6.write (q := q) (nx := 8) (s := [62]) (by omega) (by omega) (by omega) (by omega) (by simp) (by simp only [List.length_append, List.length_cons, List.length_nil]; omega)
  have hfin : l ++ [60] ++ J ++ [32, 124, 32] ++ J2 ++ [62] = m := by rw [hm, hW]; simp
  rw [hfin] at ws7
  rw [show bs [60] = ⟨#[60]⟩ from rfl] at e3
  rw [show bs [44, 32] = ⟨#[44, 32]⟩ from rfl] at e4
  rw [show bs [32, 124, 32] = ⟨#[32, 124, 32]⟩ from rfl] at e5
  rw [show bs [] = ⟨#[]⟩ from rfl] at e6
  rw [show bs [62] = ⟨#[62]⟩ from rfl] at e7
  have c3 := ws3.d3
  have b4 := ws4.ld
  have c5 := ws5.d3
  have b6 := ws6.ld
  refine mc_seq_runs ctx00 ?_
  simp -implicitDefEqProofs [d0]
  refine mc_block ?_
  refine mc_seq_runs ctx00 ?_
  simp -implicitDefEqProofs
  refine mc_cond (t := false) rfl ?_
  simp only [Bool.false_eq_true, if_false]
  refine mc_seq_runs ctx00 ?_
  simp -implicitDefEqProofs
  refine mc_cond (t := false) rfl ?_
  simp only [Bool.false_eq_true, if_false]
  refine mc_seq_runs ctx00 ?_
  simp -implicitDefEqProofs
  refine mc_cond (t := false) rfl ?_
  simp only [Bool.false_eq_true, if_false]
  refine mc_seq_runs ctx00 ?_
  simp -implicitDefEqProofs
  refine mc_cond (t := false) rfl ?_
  simp only [Bool.false_eq_true, if_false]
  refine mc_seq_runs ctx00 ?_
  simp -implicitDefEqProofs
  refine mc_cond (t := false) rfl ?_
  simp only [Bool.false_eq_true, if_false]
  refine mc_seq_runs ctx00 ?_
  simp -implicitDefEqProofs
  refine mc_cond (t := false) rfl ?_
  simp only [Bool.false_eq_true, if_false]
  refine mc_seq_runs ctx00 ?_
  simp -implicitDefEqProofs
  refine mc_cond (t := true) rfl ?_
  simp only [if_true]
  refine mc_seq_runs ctx00 ?_
  simp -implicitDefEqProofs [d3, hlk, en]
  refine mc_seq_runs (TblOK.nil.ctxH (HTblOK.cons hok3 .nil) mixed) ?_
  simp -implicitDefEqProofs [b1, e3]
  refine mc_seq_runs (TblOK.nil.ctxH (HTblOK.cons hok4 .nil) mixed) ?_
  simp -implicitDefEqProofs [c3, s1, e4]
  refine mc_seq_runs (TblOK.nil.ctxH (HTblOK.cons hok5 .nil) mixed) ?_
  simp -implicitDefEqProofs [b4, e5]
  refine mc_seq_runs (TblOK.nil.ctxH (HTblOK.cons hok6 .nil) mixed) ?_
  simp -implicitDefEqProofs [c5, s2, e6]
  refine mc_runs (TblOK.nil.ctxH (HTblOK.cons hok7 .nil) mixed) ?_
  simp -implicitDefEqProofs [b6, e7]
  exact ws7.fin (by omega) (.inl rfl) 100
 ·rw [if_neg (by decide), if_neg (by decide), if_neg (by decide), if_neg (by decide), if_neg (by decide), if_neg (by decide), if_neg (by decide)] at hW
  obtain ⟨J, hJ⟩ : ∃ J, J = wrL [44, 32] [44, 32] kids := ⟨_, rfl⟩
  rw [← hJ] at hW
  have hlk : lenslM (.t tk) = some (.t (iv (kids.length : Int))) := hk.len
  have hJl : J.length + 3 ≤ W.length := by
   rw [hW]
   split
   ·rename_i h
    rw [hJ, List.eq_nil_of_length_eq_zero h, wrL]; simp
   ·simp only [List.length_cons, List.length_append]; omega
  obtain ⟨t2, H2, ws2, hok2, e2⟩ := ws1.write (q := q) (nx := 4) (s := [60, 33, 32]) (by omega) (by omega) (by omega) (by omega) (by simp) (by simp; omega)
  obtain ⟨t3, H3, ws3, hok3, e3⟩ := ws2.kids (q := q) (nx := 5) (by omega) (by omega) (by omega) (by omega) (by omega) hw w6 hk [44, 32] (.inl (by simp)) (fun h => (by cases h)) (by simp) (by rw [← hJ, List.length_append]; simp; omega)
  rw [← hJ] at ws3
  rw [show bs [60, 33, 32] = ⟨#[60, 33, 32]⟩ from rfl] at e2
  rw [show bs [44, 32] = ⟨#[44, 32]⟩ from rfl] at e3
  have b2 := ws2.ld
  have c3 := ws2.d3
  have b3 := ws3.ld
  have c33 := ws3.d3
  refine mc_seq_runs ctx00 ?_
  simp -implicitDefEqProofs [d0]
  refine mc_block ?_
  refine mc_seq_runs ctx00 ?_
  simp -implicitDefEqProofs
  refine mc_cond (t := false) rfl ?_
  simp only [Bool.false_eq_true, if_false]
  refine mc_seq_runs ctx00 ?_
  simp -implicitDefEqProofs
  refine mc_cond (t := false) rfl ?_
  simp only [Bool.false_eq_true, if_false]
  refine mc_seq_runs ctx00 ?_
  simp -implicitDefEqProofs
  refine mc_cond (t := false) rfl ?_
  simp only [Bool.false_eq_true, if_false]
  refine mc_seq_runs ctx00 ?_
  simp -implicitDefEqProofs
  refine mc_cond (t := false) rfl ?_
  simp only [Bool.false_eq_true, if_false]
  refine mc_seq_runs ctx00 ?_
  simp -implicitDefEqProofs
  refine mc_cond (t := false) rfl ?_
  simp only [Bool.false_eq_true, if_false]
  refine mc_seq_runs ctx00 ?_
  simp -implicitDefEqProofs
  refine mc_cond (t := false) rfl ?_
  simp only [Bool.false_eq_true, if_false]
  refine mc_seq_runs ctx00 ?_
  simp -implicitDefEqProofs
  refine mc_cond (t := false) rfl ?_
  simp only [Bool.false_eq_true, if_false]
  refine mc_seq_runs ctx00 ?_
  simp -implicitDefEqProofs
  refine mc_cond (t := true) rfl ?_
  simp only [if_true]
  refine mc_seq_runs (TblOK.nil.ctxH (HTblOK.cons hok2 .nil) mixed) ?_
  simp -implicitDefEqProofs [b1, e2]
  refine mc_seq_runs (TblOK.nil.ctxH (HTblOK.cons hok3 .nil) mixed) ?_
  simp -implicitDefEqProofs [c3, e3]
  by_cases hz : kids.length = 0
  ·rw [if_pos hz] at hW
   have hz' : ¬ 0 < kids.length := by omega
   have hJ0 : J = [] := by rw [hJ, List.eq_nil_of_length_eq_zero hz, wrL]
   subst hJ0
   obtain ⟨t4, H4, ws4, hok4, e4⟩ := ws3.write (q := q) (nx := 6) (s := [33, 62]) (by omega) (by omega) (by omega) (by omega) (by simp) (by simp; omega)
   have hfin : l ++ [60, 33, 32] ++ [] ++ [33, 62] = m := by rw [hm, hW]; simp
   rw [hfin] at ws4
   rw [show bs [33, 62] = ⟨#[33, 62]⟩ from rfl] at e4
   refine mc_runs (TblOK.nil.ctxH (HTblOK.cons hok4 .nil) mixed) ?_
   simp -implicitDefEqProofs [c33, hlk, hz, hz', b3, e4]
   exact ws4.fin (by omega) (.inl rfl) 100
  ·rw [if_neg hz] at hW
   have hJl2 : J.length + 6 = W.length := by rw [hW]; simp
   have hz' : 0 < kids.length := by omega
   obtain ⟨t4, H4, ws4, hok4, e4⟩ := ws3.write (q := q) (nx := 6) (s := [32]) (by omega) (by omega) (by omega) (by omega) (by simp) (by simp; omega)
   obtain ⟨t5, H5, ws5, hok5, e5⟩ := ws4.write (q := q) (nx := 7) (s := [33, 62]) (by omega) (by omega) (by omega) (by omega) (by simp) (by simp; omega)
   have hfin : l ++ [60, 33, 32] ++ J ++ [32] ++ [33, 62] = m := by rw [hm, hW]; simp
   rw [hfin] at ws5
   rw [show bs [32] = ⟨#[32]⟩ from rfl] at e4
   rw [show bs [33, 62] = ⟨#[33, 62]⟩ from rfl] at e5
   have b4 := ws4.ld
   refine mc_seq_runs (TblOK.nil.ctxH (HTblOK.cons hok4 .nil) mixed) ?_
   simp -implicitDefEqProofs [c33, hlk, hz', b3, e4]
   refine mc_runs (TblOK.nil.ctxH (HTblOK.cons hok5 .nil) mixed) ?_
   simp -implicitDefEqProofs [b4, e5]
   exact ws5.fin (by omega) (.inl rfl) 100
theorem write_all : ∀ {d : Ds}, Wr d → WrOK q d := fun h => by
 induction h with
 | mk op name path kids h1 h2 h3 h4 n1 n2 h5 h6 h7 h8 ih => exact write_ok (.mk op name path kids h1 h2 h3 h4 n1 n2 h5 h6 h7 h8) ih
def ixF {α : Type} (p : α → Bool) : List α → Nat → Int
 | [], _ => -1
 | x :: r, j => if p x then (j : Int) else ixF p r (j + 1)
theorem ixF_any {α : Type} (p : α → Bool) : ∀ (l : List α) (j : Nat), decide (0 ≤ ixF p l j) = l.any p
 | [], j => rfl
 | x :: r, j => by
  rw [ixF, List.any_cons]
  cases p x with
  | true => simp
  | false => simp only [Bool.false_eq_true, if_false, Bool.false_or]; exact ixF_any p r (j + 1)
theorem form1_call {c : List T} {d : Ds} (hd : Abs.IsD d c) : CallT Tryz.prog (G q) 71 [.ag c] (· = bv (decide (d.op = 4))) := by
 cases d with
 | mk op name path kids =>
  obtain ⟨tp, tk, rfl, hp, hk⟩ := hd.parts
  have : (op == 4) = decide (op = 4) := rfl
  refine k_desc_form_1.call rfl ?_
  refine mc_runs ctx00 ?_
  simp -implicitDefEqProofs [M_desc_form_1, box_d, dl0, this, Ds.op]
  exact decide_eq_decide.2 Iff.rfl
noncomputable def gF1 (ts : List T) : Option T := g1 tD (fun d => some (bv (decide (d.op = 4)))) ts
theorem hF1 : GOK Tryz.prog (G q) 71 gF1 := g1_ok fun a x r ha hr => by
 injection hr with hr; subst hr
 obtain ⟨c, rfl, hd⟩ := ha
 exact form1_call hd
theorem gF1_eq {c : List T} {d : Ds} (h : Abs.IsD d c) : gF1 [.ag c] = some (bv (decide (d.op = 4))) := by
 show g1 _ _ _ = _
 rw [g1_eq (τ := tD) (x := d) ⟨c, rfl, h⟩]
def gTn (ts : List T) : Option T := match ts with
 | [.v (.string s)] => if s.size ≤ lim then some (bv (isNamed false s)) else none
 | _ => none
def gTf (ts : List T) : Option T := match ts with
 | [.v (.string s)] => if s.size ≤ lim then some (bv (isNamed true s)) else none
 | _ => none
theorem hTn : GOK Tryz.prog (G q) 72 gTn := fun args r h => by
 unfold gTn at h
 split at h
 ·split at h
  ·injection h with h; subst h; exact name_call _ (by assumption)
  ·cases h
 ·cases h
theorem hTf : GOK Tryz.prog (G q) 75 gTf := fun args r h => by
 unfold gTf at h
 split at h
 ·split at h
  ·injection h with h; subst h; exact feature_call _ (by assumption)
  ·cases h
 ·cases h
theorem gTf_eq {s : ByteArray} (h : s.size ≤ 1000000) : gTf [sv s] = some (bv (isNamed true s)) := if_pos (by show s.size ≤ lim; unfold lim; omega)
theorem gTn_eq {s : ByteArray} (h : s.size ≤ 1000000) : gTn [sv s] = some (bv (isNamed false s)) := if_pos (by show s.size ≤ lim; unfold lim; omega)
def noFeat (s : ByteArray) : Bool := !isNamed true s
theorem form2_call {s : ByteArray} (hs : s.size ≤ 1000000) : CallT Tryz.prog (G q) 74 [sv s] (· = bv (noFeat s)) := by
 have C := (TblOK.cons (hTf (q := q)) .nil).ctx mixed
 have hg := gTf_eq hs
 refine k_desc_form_2.call rfl ?_
 refine mc_runs C ?_
 simp -implicitDefEqProofs [M_desc_form_2, hg]
 unfold noFeat
 simp
def gF2 (ts : List T) : Option T := match ts with
 | [.v (.string s)] => if s.size ≤ 1000000 then some (bv (noFeat s)) else none
 | _ => none
theorem hF2 : GOK Tryz.prog (G q) 74 gF2 := fun args r h => by
 unfold gF2 at h
 split at h
 ·split at h
  ·injection h with h; subst h; exact form2_call (by assumption)
  ·cases h
 ·cases h
theorem gF2_eq {s : ByteArray} (h : s.size ≤ 1000000) : gF2 [sv s] = some (bv (noFeat s)) := if_pos h
theorem plain_bv (b : Bool) : plainT (bv b) = true := rfl
theorem plain_iv (b : Int) : plainT (iv b) = true := rfl
theorem index1_call {tk : T} {kids : List Ds} (hk : IsK tk kids) (hl : kids.length ≤ 1000) : CallT Tryz.prog (G q) 111 [tk, fv 71] (· = iv (ixF (fun d : Ds => decide (d.op = 4)) kids 0)) := by
 have C : Ctx Tryz.prog (G q) (orh [] [(71, hOfT gF1)]) := TblOK.nil.ctxH (.cons hF1.hok .nil) mixed
 have hlk : lenslM (.t tk) = some (.t (iv (kids.length : Int))) := hk.len
 obtain ⟨W, hW⟩ : ∃ W, W = ixF (fun d : Ds => decide (d.op = 4)) kids 0 := ⟨_, rfl⟩
 rw [← hW]
 refine k_slices_IndexFunc.call rfl ?_
 unfold M_slices_IndexFunc
 refine mc_seq_runs C ?_
 simp -implicitDefEqProofs
 refine mc_cut (α := Unit) (fun _ => ⟨[], [], 0, 19⟩) (fun _ => W = -1) (fun _ => rfl) ?_ ?_
 ·refine mc_seq_runs C ?_
  simp -implicitDefEqProofs [hlk]
  refine mc_block ?_
  refine mc_while (α := Nat) (fun j => ⟨[(8, .t (iv (j : Int))), (7, .t (iv (kids.length : Int))), (0, .t tk), (1, .t (fv 71))], [], 0, 19⟩) (fun j => kids.length - j) (fun j => j ≤ kids.length ∧ ixF (fun d : Ds => decide (d.op = 4)) (kids.drop j) j = W) 0 (fun _ => rfl) ⟨by omega, by rw [List.drop_zero]; exact hW.symm⟩ (sub_env (by simp -implicitDefEqProofs)) rfl ?_
  rintro j ⟨hj, heq⟩
  by_cases hlt : j < kids.length
  ·obtain ⟨x, hx⟩ : ∃ x, kids[j]? = some x := ⟨_, List.getElem?_eq_getElem hlt⟩
   obtain ⟨p, ci, h1, h2, h3⟩ := kid_at hk hx
   have hlt' : (j : Int) < (kids.length : Int) := by omega
   have hg := gF1_eq h3
   have ho : hOfT gF1 [.t (.ag ci)] [] 0 = some (.t (bv (decide (x.op = 4))), [], 0) := by
    simp only [hOfT, toTs, toT, Option.bind_some, hg, Option.map_some, plain_bv, if_true]
   rw [List.drop_eq_getElem_cons hlt] at heq
   have hxe : kids[j] = x := by rw [List.getElem?_eq_getElem hlt] at hx; injection hx
   rw [hxe, ixF] at heq
   cases hb : decide (x.op = 4) with
   | true =>
    rw [hb, if_pos rfl] at heq
    rw [hb] at ho
    rw [← heq]
    refine mc_runs C ?_
    simp -implicitDefEqProofs [hlt, hlt', h1, h2, ho]
   | false =>
    rw [hb, if_neg (by simp)] at heq
    rw [hb] at ho
    obtain ⟨j1, hj1⟩ : ∃ j1, j1 = j + 1 := ⟨_, rfl⟩
    have ej : IntKind.i64.wrap ((j : Int) + 1) = (j1 : Int) := wrap_nat (by omega) (by omega)
    refine mc_runs C ?_
    simp -implicitDefEqProofs [hlt, hlt', h1, h2, ho, ej]
    refine Abs.Next.mk j1 ⟨⟨by omega, by rw [hj1]; exact heq⟩, by omega⟩ (sub_env (by simp -implicitDefEqProofs))
  ·have hlt' : ¬ (j : Int) < (kids.length : Int) := by omega
   rw [List.drop_eq_nil_of_le (by omega), ixF] at heq
   refine mc_runs C ?_
   simp -implicitDefEqProofs [hlt, hlt']
   exact Abs.Next.mk () heq.symm (sub_forget rfl rfl (by simp -implicitDefEqProofs) (by simp -implicitDefEqProofs))
 ·rintro ⟨⟩ hW0
  rw [hW0]
  refine mc_runs C ?_
  simp -implicitDefEqProofs
theorem index2_call {tk : T} {kids : List ByteArray} (hk : IsS eStr tk kids) (hl : kids.length ≤ 1000) (hsz : ∀ s ∈ kids, s.size ≤ 1000000) : CallT Tryz.prog (G q) 113 [tk, fv 74] (· = iv (ixF noFeat kids 0)) := by
 have C : Ctx Tryz.prog (G q) (orh [] [(74, hOfT gF2)]) := TblOK.nil.ctxH (.cons hF2.hok .nil) mixed
 have hlk : lenslM (.t tk) = some (.t (iv (kids.length : Int))) := hk.len
 obtain ⟨W, hW⟩ : ∃ W, W = ixF noFeat kids 0 := ⟨_, rfl⟩
 rw [← hW]
 refine k_slices_IndexFunc_2.call rfl ?_
 unfold M_slices_IndexFunc_2
 refine mc_seq_runs C ?_
 simp -implicitDefEqProofs
 refine mc_cut (α := Unit) (fun _ => ⟨[], [], 0, 19⟩) (fun _ => W = -1) (fun _ => rfl) ?_ ?_
 ·refine mc_seq_runs C ?_
  simp -implicitDefEqProofs [hlk]
  refine mc_block ?_
  refine mc_while (α := Nat) (fun j => ⟨[(8, .t (iv (j : Int))), (7, .t (iv (kids.length : Int))), (0, .t tk), (1, .t (fv 74))], [], 0, 19⟩) (fun j => kids.length - j) (fun j => j ≤ kids.length ∧ ixF noFeat (kids.drop j) j = W) 0 (fun _ => rfl) ⟨by omega, by rw [List.drop_zero]; exact hW.symm⟩ (sub_env (by simp -implicitDefEqProofs)) rfl ?_
  rintro j ⟨hj, heq⟩
  by_cases hlt : j < kids.length
  ·obtain ⟨x, hx⟩ : ∃ x, kids[j]? = some x := ⟨_, List.getElem?_eq_getElem hlt⟩
   obtain ⟨r, h1⟩ := str_at hk hx
   have hlt' : (j : Int) < (kids.length : Int) := by omega
   have hg := gF2_eq (hsz x (List.mem_of_getElem? hx))
   have ho : hOfT gF2 [.t (sv x)] [] 0 = some (.t (bv (noFeat x)), [], 0) := by
    simp only [hOfT, toTs, toT, Option.bind_some, hg, Option.map_some, plain_bv, if_true]
   rw [List.drop_eq_getElem_cons hlt] at heq
   have hxe : kids[j] = x := by rw [List.getElem?_eq_getElem hlt] at hx; injection hx
   rw [hxe, ixF] at heq
   cases hb : noFeat x with
   | true =>
    rw [hb, if_pos rfl] at heq
    rw [hb] at ho
    rw [← heq]
    refine mc_runs C ?_
    simp -implicitDefEqProofs [hlt, hlt', h1, lh1, ho]
   | false =>
    rw [hb, if_neg (by simp)] at heq
    rw [hb] at ho
    obtain ⟨j1, hj1⟩ : ∃ j1, j1 = j + 1 := ⟨_, rfl⟩
    have ej : IntKind.i64.wrap ((j : Int) + 1) = (j1 : Int) := wrap_nat (by omega) (by omega)
    refine mc_runs C ?_
    simp -implicitDefEqProofs [hlt, hlt', h1, lh1, ho, ej]
    refine Abs.Next.mk j1 ⟨⟨by omega, by rw [hj1]; exact heq⟩, by omega⟩ (sub_env (by simp -implicitDefEqProofs))
  ·have hlt' : ¬ (j : Int) < (kids.length : Int) := by omega
   rw [List.drop_eq_nil_of_le (by omega), ixF] at heq
   refine mc_runs C ?_
   simp -implicitDefEqProofs [hlt, hlt']
   exact Abs.Next.mk () heq.symm (sub_forget rfl rfl (by simp -implicitDefEqProofs) (by simp -implicitDefEqProofs))
 ·rintro ⟨⟩ hW0
  rw [hW0]
  refine mc_runs C ?_
  simp -implicitDefEqProofs
def tFv (F : Nat) : Ty Unit := ⟨fun t _ => t = fv F, fun _ _ _ _ _ => rfl⟩
noncomputable def gIx1 (ts : List T) : Option T := g2 tK (tFv 71) (fun kids _ => if kids.length ≤ 1000 then some (iv (ixF (fun d : Ds => decide (d.op = 4)) kids 0)) else none) ts
theorem hIx1 : GOK Tryz.prog (G q) 111 gIx1 := g2_ok fun a b x y r ha hb hr => by
 split at hr
 ·injection hr with hr; subst hr
  cases hb
  exact index1_call ha (by assumption)
 ·cases hr
theorem gIx1_eq {tk : T} {kids : List Ds} (hk : IsK tk kids) (hl : kids.length ≤ 1000) : gIx1 [tk, fv 71] = some (iv (ixF (fun d : Ds => decide (d.op = 4)) kids 0)) := by
 show g2 _ _ _ _ = _
 rw [g2_eq (τ := tK) (σ := tFv 71) (x := kids) (y := ()) hk rfl, if_pos hl]
noncomputable def gIx2 (ts : List T) : Option T := g2 (tSl eStr) (tFv 74) (fun kids _ => open Classical in if kids.length ≤ 1000 ∧ ∀ s ∈ kids, s.size ≤ 1000000 then some (iv (ixF noFeat kids 0)) else none) ts
theorem hIx2 : GOK Tryz.prog (G q) 113 gIx2 := g2_ok fun a b x y r ha hb hr => by
 split at hr
 ·rename_i hc
  injection hr with hr; subst hr
  cases hb
  exact index2_call ha hc.1 hc.2
 ·cases hr
theorem gIx2_eq {tk : T} {kids : List ByteArray} (hk : IsS eStr tk kids) (hl : kids.length ≤ 1000) (hs : ∀ s ∈ kids, s.size ≤ 1000000) : gIx2 [tk, fv 74] = some (iv (ixF noFeat kids 0)) := by
 show g2 _ _ _ _ = _
 rw [g2_eq (τ := tSl eStr) (σ := tFv 74) (x := kids) (y := ()) hk rfl, if_pos ⟨hl, hs⟩]
theorem cont1_call {tk : T} {kids : List Ds} (hk : IsK tk kids) (hl : kids.length ≤ 1000) : CallT Tryz.prog (G q) 70 [tk, fv 71] (· = bv (kids.any fun d => decide (d.op = 4))) := by
 have C : Ctx Tryz.prog (G q) (orh [] [(111, hOfT gIx1)]) := TblOK.nil.ctxH (.cons hIx1.hok .nil) mixed
 have hg := gIx1_eq hk hl
 have ho : hOfT gIx1 [.t tk, .t (fv 71)] [] 0 = some (.t (iv (ixF (fun d : Ds => decide (d.op = 4)) kids 0)), [], 0) := by
  simp only [hOfT, toTs, toT, Option.bind_some, hg, Option.map_some, plain_iv, if_true]
 have hd := ixF_any (fun d : Ds => decide (d.op = 4)) kids 0
 generalize ixF (fun d : Ds => decide (d.op = 4)) kids 0 = W at ho hd
 generalize (kids.any fun d => decide (d.op = 4)) = B at hd
 refine k_slices_ContainsFunc.call rfl ?_
 refine mc_runs C ?_
 simp -implicitDefEqProofs [M_slices_ContainsFunc, ho, hd]
theorem cont2_call {tk : T} {kids : List ByteArray} (hk : IsS eStr tk kids) (hl : kids.length ≤ 1000) (hs : ∀ s ∈ kids, s.size ≤ 1000000) : CallT Tryz.prog (G q) 73 [tk, fv 74] (· = bv (kids.any noFeat)) := by
 have C : Ctx Tryz.prog (G q) (orh [] [(113, hOfT gIx2)]) := TblOK.nil.ctxH (.cons hIx2.hok .nil) mixed
 have hg := gIx2_eq hk hl hs
 have ho : hOfT gIx2 [.t tk, .t (fv 74)] [] 0 = some (.t (iv (ixF noFeat kids 0)), [], 0) := by
  simp only [hOfT, toTs, toT, Option.bind_some, hg, Option.map_some, plain_iv, if_true]
 have hd := ixF_any noFeat kids 0
 generalize ixF noFeat kids 0 = W at ho hd
 generalize kids.any noFeat = B at hd
 refine k_slices_ContainsFunc_2.call rfl ?_
 refine mc_runs C ?_
 simp -implicitDefEqProofs [M_slices_ContainsFunc_2, ho, hd]
noncomputable def gCo1 (ts : List T) : Option T := g2 tK (tFv 71) (fun kids _ => if kids.length ≤ 1000 then some (bv (kids.any fun d => decide (d.op = 4))) else none) ts
theorem hCo1 : GOK Tryz.prog (G q) 70 gCo1 := g2_ok fun a b x y r ha hb hr => by
 split at hr
 ·injection hr with hr; subst hr
  cases hb
  exact cont1_call ha (by assumption)
 ·cases hr
theorem gCo1_eq {tk : T} {kids : List Ds} (hk : IsK tk kids) (hl : kids.length ≤ 1000) : gCo1 [tk, fv 71] = some (bv (kids.any fun d => decide (d.op = 4))) := by
 show g2 _ _ _ _ = _
 rw [g2_eq (τ := tK) (σ := tFv 71) (x := kids) (y := ()) hk rfl, if_pos hl]
noncomputable def gCo2 (ts : List T) : Option T := g2 (tSl eStr) (tFv 74) (fun kids _ => open Classical in if kids.length ≤ 1000 ∧ ∀ s ∈ kids, s.size ≤ 1000000 then some (bv (kids.any noFeat)) else none) ts
theorem hCo2 : GOK Tryz.prog (G q) 73 gCo2 := g2_ok fun a b x y r ha hb hr => by
 split at hr
 ·rename_i hc
  injection hr with hr; subst hr
  cases hb
  exact cont2_call ha hc.1 hc.2
 ·cases hr
theorem gCo2_eq {tk : T} {kids : List ByteArray} (hk : IsS eStr tk kids) (hl : kids.length ≤ 1000) (hs : ∀ s ∈ kids, s.size ≤ 1000000) : gCo2 [tk, fv 74] = some (bv (kids.any noFeat)) := by
 show g2 _ _ _ _ = _
 rw [g2_eq (τ := tSl eStr) (σ := tFv 74) (x := kids) (y := ()) hk rfl, if_pos ⟨hl, hs⟩]
noncomputable def tbF8 : Tbl := [(72, gTn)]
noncomputable def hbF8 : HTbl := [(70, hOfT gCo1), (73, hOfT gCo2)]
theorem ctxF8 : Ctx Tryz.prog (G q) (orh tbF8 hbF8) := (TblOK.cons hTn .nil).ctxH (.cons hCo1.hok (.cons hCo2.hok .nil)) mixed
theorem featAll (path : List ByteArray) : path.any noFeat = !path.all (isNamed true) := by
 induction path with
 | nil => rfl
 | cons s r ih => rw [List.any_cons, List.all_cons, ih, noFeat]; cases isNamed true s <;> simp
theorem form_call {c : List T} {op : Int} {name : ByteArray} {path : List ByteArray} {kids : List Ds} (hd : Abs.IsD (.mk op name path kids) c) (hs : Sized (.mk op name path kids)) :
  CallT Tryz.prog (G q) 45 [.ag c] (· = iv (formE op name path kids)) := by
 obtain ⟨s1, s2, s3, s4, s5⟩ := hs.parts
 obtain ⟨tp, tk, rfl, hp, hk⟩ := hd.parts
 have C := ctxF8 (q := q)
 have hlp : lenslM (.t tp) = some (.t (iv (path.length : Int))) := hp.len
 have hlk : lenslM (.t tk) = some (.t (iv (kids.length : Int))) := hk.len
 obtain ⟨W, hW⟩ : ∃ W, W = formE op name path kids := ⟨_, rfl⟩
 rw [← hW]
 unfold formE at hW
 refine k_desc_form.call rfl ?_
 unfold M_desc_form
 refine mc_seq_runs C ?_
 simp -implicitDefEqProofs [box_d]
 refine mc_seq_runs C ?_
 simp -implicitDefEqProofs
 refine mc_cut (α := Unit) (fun _ => ⟨[(3, .t (bv (leafOp op))), (4, .t (bv (decide (op = 5)))), (5, .t (bv (kidsB op kids))), (1, .ptr 0 0)], [(0, dRow op name tp tk)], 1, 72⟩) (fun _ => ¬ (op < 1 ∨ 8 < op)) (fun _ => rfl) ?_ ?_
 ·have hk0 : ((kids.length : Int) == 0) = decide (kids.length = 0) := by
   rw [show ((kids.length : Int) == 0) = decide ((kids.length : Int) = 0) from rfl]
   exact decide_eq_decide.2 (by omega)
  have hk1 : ((kids.length : Int) == 1) = decide (kids.length = 1) := by
   rw [show ((kids.length : Int) == 1) = decide ((kids.length : Int) = 1) from rfl]
   exact decide_eq_decide.2 (by omega)
  by_cases hr : op < 1 ∨ 8 < op
  ·rw [if_pos hr] at hW
   rw [hW]
   have e : ∀ k : Int, 1 ≤ k → k ≤ 8 → (op == k) = false := fun k h1 h2 => by
    have : op ≠ k := by omega
    simpa using this
   have e1 := e 1 (by omega) (by omega)
   have e2 := e 2 (by omega) (by omega)
   have e3 := e 3 (by omega) (by omega)
   have e4 := e 4 (by omega) (by omega)
   have e5 := e 5 (by omega) (by omega)
   have e6 := e 6 (by omega) (by omega)
   have e7 := e 7 (by omega) (by omega)
   have e8 := e 8 (by omega) (by omega)
   refine mc_runs C ?_
   simp -implicitDefEqProofs [dl0, e1, e2, e3, e4, e5, e6, e7, e8]
  ·have h8 : op = 1 ∨ op = 2 ∨ op = 3 ∨ op = 4 ∨ op = 5 ∨ op = 6 ∨ op = 7 ∨ op = 8 := by omega
   have goS : ∀ {env : List (Nat × PV)} {k : Int} {X Y : Bool} {Z : Bool}, op = k → leafOp k = X → decide (k = 5) = Y → kidsB k kids = Z → Abs.look env 3 = some (.t (bv X)) → Abs.look env 4 = some (.t (bv Y)) → Abs.look env 5 = some (.t (bv Z)) → Abs.look env 1 = some (.ptr 0 0) →
     Sub Tryz.prog (G q) 0 ⟨env, [(0, dRow k name tp tk)], 1, 72⟩ ⟨[(3, .t (bv (leafOp k))), (4, .t (bv (decide (k = 5)))), (5, .t (bv (kidsB k kids))), (1, .ptr 0 0)], [(0, dRow k name tp tk)], 1, 72⟩ := by
    intro env k X Y Z _ hX hY hZ h3 h4 h5 h1
    refine sub_env ?_
    rw [hX, hY, hZ]
    intro x hx
    simp only [List.mem_cons, List.not_mem_nil, or_false] at hx
    rcases hx with rfl | rfl | rfl | rfl
    ·exact h3
    ·exact h4
    ·exact h5
    ·exact h1
   clear hW hr
   rcases h8 with rfl | rfl | rfl | rfl | rfl | rfl | rfl | rfl
   ·refine mc_runs C ?_
    simp -implicitDefEqProofs [dl0, dl3, hlk]
    exact Abs.Next.mk () trivial (goS rfl rfl rfl (by unfold kidsB; exact (if_pos rfl).trans hk0.symm) rfl rfl rfl rfl)
   ·refine mc_runs C ?_
    simp -implicitDefEqProofs [dl0, dl3, hlk]
    exact Abs.Next.mk () trivial (goS rfl rfl rfl (by unfold kidsB; exact (if_pos rfl).trans hk0.symm) rfl rfl rfl rfl)
   ·refine mc_runs C ?_
    simp -implicitDefEqProofs [dl0, dl3, hlk]
    exact Abs.Next.mk () trivial (goS rfl rfl rfl (by unfold kidsB; exact (if_pos rfl).trans hk0.symm) rfl rfl rfl rfl)
   ·have hg := gCo1_eq hk s4
    have ho : hOfT gCo1 [.t tk, .t (fv 71)] [(0, dRow 4 name tp tk)] 1 = some (.t (bv (kids.any fun d => decide (d.op = 4))), [(0, dRow 4 name tp tk)], 1) := by
     simp only [hOfT, toTs, toT, Option.bind_some, hg, Option.map_some, plain_bv, if_true]
    have hkB : kidsB 4 kids = (decide (2 ≤ kids.length) && !(kids.any fun k => decide (k.op = 4))) := rfl
    generalize (kids.any fun k => decide (k.op = 4)) = A at ho hkB
    by_cases h2 : 1 < kids.length
    ·have h2' : (1 : Int) < (kids.length : Int) := by omega
     rw [decide_eq_true (by omega : 2 ≤ kids.length), Bool.true_and] at hkB
     refine mc_runs C ?_
     simp -implicitDefEqProofs [hbF8, dl0, dl3, hlk, h2, h2', ho]
     exact Abs.Next.mk () trivial (goS rfl rfl rfl hkB rfl rfl rfl rfl)
    ·have h2' : ¬ (1 : Int) < (kids.length : Int) := by omega
     rw [decide_eq_false (by omega : ¬ 2 ≤ kids.length), Bool.false_and] at hkB
     refine mc_runs C ?_
     simp -implicitDefEqProofs [hbF8, dl0, dl3, hlk, h2, h2', ho]
     exact Abs.Next.mk () trivial (goS rfl rfl rfl hkB rfl rfl rfl rfl)
   ·refine mc_runs C ?_
    simp -implicitDefEqProofs [dl0, dl3, hlk]
    exact Abs.Next.mk () trivial (goS rfl rfl rfl hk1.symm rfl rfl rfl rfl)
   ·refine mc_runs C ?_
    simp -implicitDefEqProofs [dl0, dl3, hlk]
    exact Abs.Next.mk () trivial (goS rfl rfl rfl rfl rfl rfl rfl rfl)
   ·refine mc_runs C ?_
    simp -implicitDefEqProofs [dl0, dl3, hlk]
    exact Abs.Next.mk () trivial (goS rfl rfl rfl (decide_eq_decide.2 (by omega)) rfl rfl rfl rfl)
   ·refine mc_runs C ?_
    simp -implicitDefEqProofs [dl0, dl3, hlk]
    exact Abs.Next.mk () trivial (goS rfl rfl rfl rfl rfl rfl rfl rfl)
 ·rintro ⟨⟩ hn
  rw [if_neg hn] at hW
  unfold formB at hW
  have hgn := gTn_eq s1
  have hsz : (!name.toList.isEmpty) = decide (name.size ≠ 0) := by
   rw [toList_data]
   cases hn2 : name.data.toList with
   | nil =>
    have : name.data.toList.length = name.size := rfl
    rw [hn2] at this
    have : name.size = 0 := this.symm
    rw [this]; rfl
   | cons x r =>
    have : name.data.toList.length = name.size := rfl
    rw [hn2] at this
    have h0 : name.size ≠ 0 := by rw [← this]; simp
    simp [h0]
  have hne : isNamed false name = true → (!name.toList.isEmpty) = true := fun h => by
   rw [hsz]
   refine decide_eq_true fun h0 => ?_
   rw [named_empty h0] at h
   cases h
  have hsz2 : decide (name.size = 0) = name.toList.isEmpty := by
   have h := congrArg (fun b => !b) hsz
   simp only [Bool.not_not] at h
   rw [h]
   simp
  have h0 : decide ((0 : Int) < (path.length : Int)) = decide (0 < path.length) := decide_eq_decide.2 (by omega)
  have hg2 := gCo2_eq hp s2 s3
  rw [featAll] at hg2
  have ho : hOfT gCo2 [.t tp, .t (fv 74)] [(0, dRow op name tp tk)] 1 = some (.t (bv (!path.all (isNamed true))), [(0, dRow op name tp tk)], 1) := by
   simp only [hOfT, toTs, toT, Option.bind_some, hg2, Option.map_some, plain_bv, if_true]
  rw [hsz2] at hW
  obtain ⟨A, hA⟩ : ∃ A, A = path.all (isNamed true) := ⟨_, rfl⟩
  rw [← hA] at hW ho
  have hP0 : decide ((0 : Int) < (path.length : Int)) = decide (0 < path.length) := h0
  refine mc_cut (α := Unit) (fun _ => ⟨[(1, .ptr 0 0)], [(0, dRow op name tp tk)], 1, 72⟩) (fun _ => W = if A then 0 else 1) (fun _ => rfl) ?_ ?_
  ·cases hK : kidsB op kids with
   | false =>
    rw [hK] at hW
    have hW1 : W = 1 := by simpa using hW
    rw [hW1]
    refine mc_runs C ?_
    simp -implicitDefEqProofs
   | true =>
    rw [hK] at hW
    cases hL : leafOp op with
    | true =>
     rw [hL] at hW
     simp only [if_true] at hW
     cases hE : name.toList.isEmpty with
     | true =>
      have hN : isNamed false name = false := by
       cases h : isNamed false name with
       | false => rfl
       | true => have := hne h; rw [hE] at this; cases this
      rw [hN] at hW
      have hW1 : W = 1 := by simpa using hW
      rw [hW1]
      refine mc_runs C ?_
      simp -implicitDefEqProofs [dl1, hE]
     | false =>
      cases hN : isNamed false name with
      | false =>
       rw [hN] at hW hgn
       have hW1 : W = 1 := by simpa using hW
       rw [hW1]
       refine mc_runs C ?_
       simp -implicitDefEqProofs [tbF8, dl1, hE, hgn]
      | true =>
       rw [hN] at hW hgn
       cases hP : (decide (op = 5) == decide (0 < path.length)) with
       | false =>
        rw [hP] at hW
        have hW1 : W = 1 := by simpa using hW
        rw [hW1]
        refine mc_runs C ?_
        simp -implicitDefEqProofs [tbF8, dl1, dl2, hlp, hE, hgn, hP]
       | true =>
        rw [hP] at hW
        have hW2 : W = if A then 0 else 1 := by simpa using hW
        refine mc_runs C ?_
        simp -implicitDefEqProofs [tbF8, dl1, dl2, hlp, hE, hgn, hP]
        exact Abs.Next.mk () hW2 (sub_env (by simp -implicitDefEqProofs))
    | false =>
     rw [hL] at hW
     simp only [Bool.false_eq_true, if_false] at hW
     cases hE : name.toList.isEmpty with
     | false =>
      rw [hE] at hW
      have hW1 : W = 1 := by simpa using hW
      rw [hW1]
      refine mc_runs C ?_
      simp -implicitDefEqProofs [tbF8, dl1, hE]
     | true =>
      rw [hE] at hW
      cases hP : (decide (op = 5) == decide (0 < path.length)) with
      | false =>
       rw [hP] at hW
       have hW1 : W = 1 := by simpa using hW
       rw [hW1]
       refine mc_runs C ?_
       simp -implicitDefEqProofs [tbF8, dl1, dl2, hlp, hE, hP]
      | true =>
       rw [hP] at hW
       have hW2 : W = if A then 0 else 1 := by simpa using hW
       refine mc_runs C ?_
       simp -implicitDefEqProofs [tbF8, dl1, dl2, hlp, hE, hP]
       exact Abs.Next.mk () hW2 (sub_env (by simp -implicitDefEqProofs))
  ·rintro ⟨⟩ hW2
   rw [hW2]
   cases A with
   | true =>
    refine mc_runs C ?_
    simp -implicitDefEqProofs [hbF8, dl2, ho]
   | false =>
    refine mc_runs C ?_
    simp -implicitDefEqProofs [hbF8, dl2, ho]
noncomputable def gForm (ts : List T) : Option T := g1 tD (fun d => open Classical in if Sized d then some (iv (formE d.op d.name d.path d.kids)) else none) ts
theorem hForm : GOK Tryz.prog (G q) 45 gForm := g1_ok fun a x r ha hr => by
 split at hr
 ·rename_i hc
  injection hr with hr; subst hr
  obtain ⟨c, rfl, hd⟩ := ha
  cases x with
  | mk op name path kids => exact form_call hd hc
 ·cases hr
theorem gForm_eq {c : List T} {op : Int} {name : ByteArray} {path : List ByteArray} {kids : List Ds} (h : Abs.IsD (.mk op name path kids) c) (hs : Sized (.mk op name path kids)) : gForm [.ag c] = some (iv (formE op name path kids)) := by
 show g1 _ _ _ = _
 rw [g1_eq (τ := tD) (x := .mk op name path kids) ⟨c, rfl, h⟩]
 exact if_pos hs
def belowS (op : Int) (lv : Nat) : Nat := if op = 4 then lv else lv + 1
theorem below_call {c : List T} {d : Ds} (hd : Abs.IsD d c) {lv : Nat} (hlv : lv ≤ 1000000) : CallT Tryz.prog (G q) 46 [.ag c, iv (lv : Int)] (· = iv (belowS d.op lv : Nat)) := by
 cases d with
 | mk op name path kids =>
  obtain ⟨tp, tk, rfl, hp, hk⟩ := hd.parts
  obtain ⟨lv1, hlv1⟩ : ∃ lv1, lv1 = lv + 1 := ⟨_, rfl⟩
  have el : IntKind.i64.wrap ((lv : Int) + 1) = (lv1 : Int) := wrap_nat (by omega) (by omega)
  unfold belowS Ds.op
  rw [← hlv1]
  refine k_desc_below.call rfl ?_
  by_cases h4 : op = 4
  ·have e4 : (op == 4) = true := by simpa using h4
   rw [if_pos h4]
   refine mc_runs ctx00 ?_
   simp -implicitDefEqProofs [M_desc_below, box_d, dl0, e4]
  ·have e4 : (op == 4) = false := by simpa using h4
   rw [if_neg h4]
   refine mc_runs ctx00 ?_
   simp -implicitDefEqProofs [M_desc_below, box_d, dl0, e4, el]
noncomputable def gBel (ts : List T) : Option T := g2 tD tInt (fun d lv => if 0 ≤ lv ∧ lv ≤ 1000000 then some (iv (belowS d.op lv.toNat : Nat)) else none) ts
theorem hBel : GOK Tryz.prog (G q) 46 gBel := g2_ok fun a b x y r ha hb hr => by
 split at hr
 ·rename_i hc
  injection hr with hr; subst hr
  obtain ⟨c, rfl, hd⟩ := ha
  cases hb
  obtain ⟨n, rfl⟩ := Int.eq_ofNat_of_zero_le hc.1
  exact below_call hd (by omega)
 ·cases hr
theorem gBel_eq {c : List T} {d : Ds} (h : Abs.IsD d c) {lv : Nat} (hl : lv ≤ 1000000) : gBel [.ag c, iv (lv : Int)] = some (iv (belowS d.op lv : Nat)) := by
 show g2 _ _ _ _ = _
 rw [g2_eq (τ := tD) (σ := tInt) (x := d) (y := (lv : Int)) ⟨c, rfl, h⟩ rfl, if_pos ⟨by omega, by omega⟩, Int.toNat_natCast]
section
variable (R : Heap) (a b c d op : T) (name : ByteArray) (tp tk : T) (k : Int) (x0 x1 x2 x3 : PV)
theorem sk1 : storeM 4 ((1, .cells 25 [x0, x1, x2, x3]) :: R) (.ptr 1 0) (.t (.ag [a, b, c, d])) = some ((1, .cells 25 [.t a, .t b, .t c, .t d]) :: R) := rfl
theorem dk1 : loadM true 4 ((1, .cells 25 [.t a, .t b, .t c, .t d]) :: R) (.ptr 1 0) = some (.t (.ag [a, b, c, d])) := rfl
theorem dm4 (X : Row) : loadM true 4 ((1, X) :: (0, dRow k name tp tk) :: R) (.ptr 0 0) = some (.t (.ag [iv k, sv name, tp, tk])) := rfl
end
theorem check_call {m : Nat} (hrec : GOK Tryz.prog (G q) 30 (gCh m)) {c : List T} {d : Ds} (hd : Abs.IsD d c) (hs : Sized d) (hdep : d.depth ≤ m + 1) {lv : Nat} (hlv : lv ≤ 65) :
  CallT Tryz.prog (G q) 30 [.ag c, iv (lv : Int)] (· = iv (checkE d lv)) := by
 cases d with
 | mk op name path kids =>
 have hgf := gForm_eq hd hs
 have hgb := gBel_eq hd (lv := lv) (by omega)
 obtain ⟨s1, s2, s3, s4, s5⟩ := hs.parts
 obtain ⟨tp, tk, rfl, hp, hk⟩ := hd.parts
 rw [Ds.depth] at hdep
 have C := (TblOK.cons hrec (.cons hForm (.cons hBel .nil))).ctx mixed
 have hlp : lenslM (.t tp) = some (.t (iv (path.length : Int))) := hp.len
 have hlk : lenslM (.t tk) = some (.t (iv (kids.length : Int))) := hk.len
 obtain ⟨W, hW⟩ : ∃ W, W = checkE (.mk op name path kids) lv := ⟨_, rfl⟩
 rw [← hW]
 rw [checkE] at hW
 obtain ⟨lv2, hlv2⟩ : ∃ lv2, lv2 = belowS op lv := ⟨_, rfl⟩
 have hl2 : (if op = 4 then lv else lv + 1) = lv2 := hlv2.symm
 rw [hl2] at hW
 have hgb : gBel [.ag [iv op, sv name, tp, tk], iv (lv : Int)] = some (iv (lv2 : Int)) := by rw [hlv2]; exact hgb
 generalize formE op name path kids = F at hgf hW
 refine k_desc_check.call rfl ?_
 unfold M_desc_check
 refine mc_seq_runs C ?_
 simp -implicitDefEqProofs [box_d]
 refine mc_cut (α := Unit) (fun _ => ⟨[(2, .ptr 0 0), (1, .t (iv (lv : Int)))], [(0, dRow op name tp tk)], 1, 44⟩) (fun _ => ¬ (64 < lv ∨ 64 < path.length ∨ 256 < kids.length)) (fun _ => rfl) ?_ ?_
 ·by_cases b1 : 64 < lv
  ·have b1' : (64 : Int) < (lv : Int) := by omega
   rw [if_pos (.inl b1)] at hW
   rw [hW]
   refine mc_runs C ?_
   simp -implicitDefEqProofs [b1, b1']
  have b1' : ¬ (64 : Int) < (lv : Int) := by omega
  by_cases b2 : 64 < path.length
  ·have b2' : (64 : Int) < (path.length : Int) := by omega
   rw [if_pos (.inr (.inl b2))] at hW
   rw [hW]
   refine mc_runs C ?_
   simp -implicitDefEqProofs [b1, b1', dl2, hlp, b2, b2']
  have b2' : ¬ (64 : Int) < (path.length : Int) := by omega
  by_cases b3 : 256 < kids.length
  ·have b3' : (256 : Int) < (kids.length : Int) := by omega
   rw [if_pos (.inr (.inr b3))] at hW
   rw [hW]
   refine mc_runs C ?_
   simp -implicitDefEqProofs [b1, b1', dl2, hlp, b2, b2', dl3, hlk, b3, b3']
  have b3' : ¬ (256 : Int) < (kids.length : Int) := by omega
  refine mc_runs C ?_
  simp -implicitDefEqProofs [b1, b1', dl2, hlp, b2, b2', dl3, hlk, b3, b3']
  exact Abs.Next.mk () trivial (sub_env (by simp -implicitDefEqProofs))
 ·rintro ⟨⟩ hn
  rw [if_neg hn] at hW
  have hlv64 : lv ≤ 64 := by omega
  by_cases hF : F = 0
  ·rw [if_neg (fun h => h hF)] at hW
   have hF' : (F != 0) = false := by simpa using hF
   refine mc_seq_runs C ?_
   simp -implicitDefEqProofs [dl4, hgf, hF']
   have hlv65 : lv2 ≤ 65 := by rw [hlv2]; unfold belowS; split <;> omega
   refine mc_cut (α := Unit) (fun _ => ⟨[], [], 1, 44⟩) (fun _ => W = 0) (fun _ => rfl) ?_ ?_
   ·refine mc_seq_runs C ?_
    simp -implicitDefEqProofs [dl3, hlk]
    refine mc_block ?_
    refine mc_while (α := Nat) (fun j => ⟨[(31, .t (iv (j : Int))), (30, .t (iv (kids.length : Int))), (29, .t tk), (1, .t (iv (lv : Int))), (2, .ptr 0 0)], [(0, dRow op name tp tk)], 1, 44⟩) (fun j => kids.length - j) (fun j => j ≤ kids.length ∧ checkL (kids.drop j) lv2 = W) 0 (fun _ => rfl) ⟨by omega, by rw [List.drop_zero]; exact hW.symm⟩ (sub_env (by simp -implicitDefEqProofs)) rfl ?_
    rintro j ⟨hj, heq⟩
    by_cases hlt : j < kids.length
    ·obtain ⟨x, hx⟩ : ∃ x, kids[j]? = some x := ⟨_, List.getElem?_eq_getElem hlt⟩
     obtain ⟨p, ci, h1, h2, h3⟩ := kid_at hk hx
     have hlt' : (j : Int) < (kids.length : Int) := by omega
     have hmem := List.mem_of_getElem? hx
     have hg := gCh_eq (m := m) h3 (s5 x hmem) (by have := depth_kid hmem; omega) hlv65
     rw [List.drop_eq_getElem_cons hlt] at heq
     have hxe : kids[j] = x := by rw [List.getElem?_eq_getElem hlt] at hx; injection hx
     rw [hxe, checkL] at heq
     obtain ⟨xo, xn, xp, xk, rfl⟩ : ∃ xo xn xp xk, x = .mk xo xn xp xk := by cases x; exact ⟨_, _, _, _, rfl⟩
     obtain ⟨xtp, xtk, rfl, _, _⟩ := h3.parts
     generalize checkE (.mk xo xn xp xk) lv2 = E at hg heq
     by_cases b : E = 0
     ·rw [if_neg (fun h => h b)] at heq
      rw [b] at hg
      obtain ⟨j1, hj1⟩ : ∃ j1, j1 = j + 1 := ⟨_, rfl⟩
      have ej : IntKind.i64.wrap ((j : Int) + 1) = (j1 : Int) := wrap_nat (by omega) (by omega)
      refine mc_runs C ?_
      simp -implicitDefEqProofs [dl3, hlk, hlt, hlt', h1, h2, hg, ej, sk1, dk1, dm4, hgb]
      refine Abs.Next.mk j1 ⟨⟨by omega, by rw [hj1]; exact heq⟩, by omega⟩ (sub_frzR [] (by omega) (by simp -implicitDefEqProofs [frzP_tree, frzP_ptr, under]) ?_)
      intro y hy
      simp only [List.mem_singleton] at hy
      subst hy
      exact ⟨by simp, by show 0 < 1; omega, rfl, _, rfl, rfl⟩
     ·rw [if_pos b] at heq
      have b' : (E != 0) = true := by simpa using b
      rw [← heq]
      refine mc_runs C ?_
      simp -implicitDefEqProofs [dl3, hlk, hlt, hlt', h1, h2, hg, sk1, dk1, dm4, hgb, b']
    ·have hlt' : ¬ (j : Int) < (kids.length : Int) := by omega
     rw [List.drop_eq_nil_of_le (by omega), checkL] at heq
     refine mc_runs C ?_
     simp -implicitDefEqProofs [dl3, hlk, hlt, hlt']
     exact Abs.Next.mk () heq.symm (sub_forget rfl rfl (by simp -implicitDefEqProofs) (by simp -implicitDefEqProofs))
   ·rintro ⟨⟩ hW0
    rw [hW0]
    refine mc_runs C ?_
    simp -implicitDefEqProofs
  ·rw [if_pos hF] at hW
   have hF' : (F != 0) = true := by simpa using hF
   rw [hW]
   refine mc_seq_runs C ?_
   simp -implicitDefEqProofs [dl4, hgf, hF']
theorem hDCh : ∀ m, GOK Tryz.prog (G q) 30 (gCh m)
 | 0 => g2_ok fun a b x y r ha hb hr => by
  split at hr
  ·rename_i hc
   cases x with
   | mk _ _ _ _ => have := hc.2.1; rw [Ds.depth] at this; omega
  ·cases hr
 | m + 1 => g2_ok fun a b x y r ha hb hr => by
  split at hr
  ·rename_i hc
   obtain ⟨h1, h2, h3, h4⟩ := hc
   injection hr with hr; subst hr
   obtain ⟨c, rfl, hcx⟩ := ha
   cases hb
   obtain ⟨n, rfl⟩ := Int.eq_ofNat_of_zero_le h3
   exact check_call (hDCh m) hcx h1 h2 (by omega)
  ·cases hr
theorem hDCheck : GOK Tryz.prog (G q) 14 gCheck := g1_ok fun a x r ha hr => by
 split at hr
 ·rename_i hc
  injection hr with hr; subst hr
  obtain ⟨c, rfl, hd⟩ := ha
  have hg := gCh_eq (m := x.depth) hd hc (Nat.le_refl _) (lv := 1) (by omega)
  cases x with
  | mk op name path kids =>
   obtain ⟨tp, tk, rfl, hp, hk⟩ := hd.parts
   have C := (TblOK.cons (hDCh (q := q) (Ds.mk op name path kids).depth) .nil).ctx mixed
   generalize checkE (.mk op name path kids) 1 = W at hg
   have hg : gCh (Ds.mk op name path kids).depth [.ag [iv op, sv name, tp, tk], .v (.int .i64 1)] = some (iv W) := hg
   refine k_desc_Check.call rfl ?_
   refine mc_runs C ?_
   simp -implicitDefEqProofs [M_desc_Check, box_d, dl4, hg]
 ·cases hr
theorem print_call {c : List T} {d : Ds} (hd : Abs.IsD d c) (hs : Sized d) (hw : checkE d 1 = 0 → Wr d) :
  CallT Tryz.prog (G q) 22 [.ag c] (· = priT d) := by
 cases d with
 | mk op name path kids =>
 have hg := gCheck_eq hd hs
 have hd0 := hd
 obtain ⟨tp, tk, rfl, hp, hk⟩ := hd.parts
 have C0 : Ctx Tryz.prog (G q) _ := (TblOK.cons (hDCheck (q := q)) .nil).ctx mixed
 refine k_desc_Print.call rfl ?_
 unfold M_desc_Print
 obtain ⟨R, hR⟩ : ∃ R, R = priT (.mk op name path kids) := ⟨_, rfl⟩
 rw [← hR]
 unfold priT at hR
 generalize hE : checkE (.mk op name path kids) 1 = E at hg hR hw
 by_cases he : E = 0
 ·subst he
  have hwr := hw rfl
  have hwl := hwr.parts.2.2.2.2.2.2.2.2.1
  have hwne := wrD_ne hwr
  rw [if_neg (by omega)] at hR
  obtain ⟨H1, hH1⟩ : ∃ H1, H1 = ([(1, bldR pNil 0 []), (0, dRow op name tp tk)] : Heap) := ⟨_, rfl⟩
  have l1 : Abs.look H1 1 = some (bldR pNil 0 []) := by rw [hH1]; rfl
  have c37 := (write_all (q := q) hwr).at_ hwr hd0 (H := H1) (NX := 2) (b := 1) (g := 0) (p := pNil) (l := []) (by simpa using hwl) l1 (.inl rfl) (.inl rfl) (by omega) (by omega) (by omega)
  rw [List.nil_append] at c37
  generalize wrD (.mk op name path kids) = W at hR hwl hwne c37
  obtain ⟨H2, hH2⟩ : ∃ H2, H2 = wsH H1 1 0 2 [] W := ⟨_, rfl⟩
  rw [← hH2] at c37
  have l2 : Abs.look H2 1 = some (bldR (.ptr 1 0) 2 W) := by rw [hH2]; exact ws_at0 l1 (by omega) (.inl rfl)
  have r2 : RowAt eB tyU H2 2 W := by rw [hH2]; exact ws_row
  have l0 : Abs.look H2 0 = some (dRow op name tp tk) := by rw [hH2, ws_other (by omega) (.inl rfl) (by omega), hH1]; rfl
  have c38 := len_call (q := q) (nx := 3) l2 r2
  have c39 := str_call (q := q) (nx := 3) l2 r2 hwne (by omega)
  obtain ⟨t37, e37, hok37⟩ : ∃ t, t [.ptr 1 0, .t (.ag [iv op, sv name, tp, tk])] H1 2 = some (.t (.tu []), H2, 3) ∧ HOK Tryz.prog (G q) 37 t := ⟨_, hOne_eq _ _ _ _, hOne_ok c37 (by rw [hH2]; exact ws_fresh (by omega))⟩
  obtain ⟨t38, e38, hok38⟩ : ∃ t, t [.ptr 1 0] H2 3 = some (.t (iv (W.length : Int)), H2, 3) ∧ HOK Tryz.prog (G q) 38 t := ⟨_, hOne_eq _ _ _ _, hOne_ok c38 fun h => h⟩
  obtain ⟨t39, e39, hok39⟩ : ∃ t, t [.ptr 1 0] H2 3 = some (.t (sv (bs W)), rem H2 2, 3) ∧ HOK Tryz.prog (G q) 39 t := ⟨_, hOne_eq _ _ _ _, hOne_ok c39 fun h k x hk => by
   rw [look_rem] at hk
   split at hk
   ·cases hk
   ·exact h k x hk⟩
  refine mc_seq_runs C0 ?_
  simp -implicitDefEqProofs [box_d]
  refine mc_seq_runs C0 ?_
  simp -implicitDefEqProofs [dl4, hg]
  refine mc_seq_runs C0 ?_
  simp -implicitDefEqProofs
  refine MC.sub (s' := ⟨[(5, .ptr 1 0), (3, .t (iv 0)), (2, .t (sv ⟨#[]⟩)), (1, .ptr 0 0)], H1, 2, 16⟩) (by rw [hH1]; exact sub_env (by simp -implicitDefEqProofs)) rfl ?_
  have g1 : loadM true 4 H1 (.ptr 0 0) = some (.t (.ag [iv op, sv name, tp, tk])) := by rw [hH1]; rfl
  refine mc_seq_runs (TblOK.nil.ctxH (HTblOK.cons hok37 .nil) mixed) ?_
  simp -implicitDefEqProofs [g1, e37]
  by_cases hl : 65536 < W.length
  ·rw [if_pos hl] at hR
   have hl' : (65536 : Int) < (W.length : Int) := by omega
   rw [hR]
   refine mc_runs (TblOK.nil.ctxH (HTblOK.cons hok38 .nil) mixed) ?_
   simp -implicitDefEqProofs [e38, hl, hl']
  ·rw [if_neg hl] at hR
   have hl' : ¬ (65536 : Int) < (W.length : Int) := by omega
   rw [hR]
   refine mc_seq_runs (TblOK.nil.ctxH (HTblOK.cons hok38 .nil) mixed) ?_
   simp -implicitDefEqProofs [e38, hl, hl']
   refine mc_runs (TblOK.nil.ctxH (HTblOK.cons hok39 .nil) mixed) ?_
   simp -implicitDefEqProofs [e39]
 ·rw [if_pos he] at hR
  have hb : (E != 0) = true := by simpa using he
  rw [hR]
  refine mc_runs C0 ?_
  simp -implicitDefEqProofs [box_d, dl4, hg, hb]
noncomputable def gPrint (ts : List T) : Option T := g1 tD (fun d => open Classical in if Sized d ∧ (checkE d 1 = 0 → Wr d) then some (priT d) else none) ts
theorem gPrint_eq {c : List T} {d : Ds} (h : Abs.IsD d c) (hs : Sized d) (hw : checkE d 1 = 0 → Wr d) : gPrint [.ag c] = some (priT d) := by
 show g1 _ _ _ = _
 rw [g1_eq (τ := tD) (x := d) ⟨c, rfl, h⟩, if_pos ⟨hs, hw⟩]
theorem hPrint : GOK Tryz.prog (G q) 22 gPrint := g1_ok fun a x r ha hr => by
 split at hr
 ·rename_i hc
  injection hr with hr; subst hr
  obtain ⟨c, rfl, hd⟩ := ha
  exact print_call hd hc.1 hc.2
 ·cases hr
theorem hRPrint : GOK Tryz.prog (G q) 23 gPrint := g1_ok fun a x r ha hr => by
 split at hr
 ·rename_i hc
  injection hr with hr; subst hr
  obtain ⟨c, rfl, hd⟩ := ha
  exact rprint_call hd hc.1 hc.2
 ·cases hr
end Go.Proofs.YtjkkgbdoeaihmaaGreatDoor
