/-
 Auxiliary facts. No statement of the program stands here.
-/
import Derived.Test.YtjkkgbdoeaihmaaGreatDoorUBQ26
import Derived.WalkKit
import Derived.Defers
import Derived.Recover
import Derived.Deep.RegionHeld3
import Derived.Test.YtjkkgbdoeaihmaaGreatDoorUBQ24
import Derived.Test.YtjkkgbdoeaihmaaGreatDoorUBQ25
import Derived.Test.YtjkkgbdoeaihmaaGreatDoorUBQ22
namespace Go.Proofs.YtjkkgbdoeaihmaaGreatDoor
set_option linter.unusedSimpArgs false
set_option linter.unusedVariables false
open Go Go.RowKit
def recW (w : World) (g0 g1 g2 : Nat) (er : Int) : World :=
 (((((w.setCell ⟨g0, 0, none⟩ (.int .i64 0)).setCell ⟨g0, 1, none⟩ (.string ⟨#[]⟩)).setCell ⟨g0, 2, none⟩ (.slice none 0 0)).setCell ⟨g0, 3, none⟩ (.slice none 0 0)).setCell ⟨g1, 0, none⟩ (.int .i64 0)).setCell ⟨g2, 0, none⟩ (.int .i64 er)
theorem catch_pan {er : Int} {g0 g1 g2 : Nat} {w : World} {x0 x1 x2 x3 y0 z0 : Value} (h0 : w.heap[g0]? = some (.cells #[x0, x1, x2, x3] 25 (0, 0))) (h1 : w.heap[g1]? = some (.cells #[y0] 3 (0, 0))) (h2 : w.heap[g2]? = some (.cells #[z0] 28 (0, 0)))
  (d1 : g0 ≠ g1) (d2 : g0 ≠ g2) (d3 : g1 ≠ g2) :
  CallsD Tryz.prog 33 #[.pointer (some ⟨g0, 0, none⟩), .pointer (some ⟨g1, 0, none⟩), .pointer (some ⟨g2, 0, none⟩)] (.panicking (errC er)) w fun e u' w' =>
   e = .returned (.tuple #[]) ∧ u' = .panicking [{ v := .iface 28 (.int .i64 er), recovered := true }] ∧ w' = recW w g0 g1 g2 er := by
 have c0 : w.cell? ⟨g0, 0, none⟩ = some x0 := by simp [World.cell?, h0]
 have c1 : w.cell? ⟨g0, 1, none⟩ = some x1 := by simp [World.cell?, h0]
 have c2 : w.cell? ⟨g0, 2, none⟩ = some x2 := by simp [World.cell?, h0]
 have c3 : w.cell? ⟨g0, 3, none⟩ = some x3 := by simp [World.cell?, h0]
 have c4 : w.cell? ⟨g1, 0, none⟩ = some y0 := by simp [World.cell?, h1]
 have c5 : w.cell? ⟨g2, 0, none⟩ = some z0 := by simp [World.cell?, h2]
 have f0 : ∀ o, w.frozen? ⟨g0, o, none⟩ = false := fun o => by simp [World.frozen?, h0]
 have f1 : ∀ o, w.frozen? ⟨g1, o, none⟩ = false := fun o => by simp [World.frozen?, h1]
 have f2 : ∀ o, w.frozen? ⟨g2, o, none⟩ = false := fun o => by simp [World.frozen?, h2]
 have e1 : g1 ≠ g0 := Ne.symm d1
 have e2 : g2 ≠ g0 := Ne.symm d2
 have e3 : g2 ≠ g1 := Ne.symm d3
 clear h0 h1 h2
 refine callsD_of_wpS Tryz.func33 rfl fun c₀ cs hu => ?_
 simp only [Tryz.ntmps33, List.size_toArray, List.length_cons, List.length_nil, Nat.reduceAdd, Nat.reduceSub, Array.replicate_succ, Array.replicate_zero, List.push_toArray, List.append_toArray, List.nil_append, List.cons_append]
 have hta : ∀ w : World, (Instr.typeAssert (.iface 28 (.int .i64 er)) 20 28 true).run Tryz.prog w = .ok (.tuple #[.int .i64 er, .bool true]) w := fun w => by kernel_rfl
 apply wpS_seq
 apply wpS_region
 simp [wpOpsS, go_sem, recoverD, hu, Tryz.ntmps33, Exit.thenS]
 apply wpS_seq
 apply wpS_region
 simp [wpOpsS, go_sem, Exit.thenS]
 refine wpS_cond (t := true) (by simp [Act.eval, Array.replicate]) ?_
 simp only [if_true]
 refine wpS_of_wp ?_
 clear hu
 go_wp2
 cases c₀
 simp_all [bodyPostS, results, Tryz.results33, recW]
theorem catch_idle {g0 g1 g2 : Addr} {w : World} :
  CallsD Tryz.prog 33 #[.pointer (some g0), .pointer (some g1), .pointer (some g2)] .returning w fun e u' w' => e = .returned (.tuple #[]) ∧ u' = .returning ∧ w' = w := by
 refine callsD_of_wpS Tryz.func33 rfl fun c₀ cs hu => ?_
 simp only [Tryz.ntmps33, List.size_toArray, List.length_cons, List.length_nil, Nat.reduceAdd, Nat.reduceSub, Array.replicate_succ, Array.replicate_zero, List.push_toArray, List.append_toArray, List.nil_append, List.cons_append]
 apply wpS_seq
 apply wpS_region
 simp [wpOpsS, go_sem, recoverD, hu, Exit.thenS]
 apply wpS_seq
 apply wpS_region
 simp [wpOpsS, go_sem, Exit.thenS]
 refine wpS_cond (t := false) (by simp [Act.eval]) ?_
 simp only [Bool.false_eq_true, if_false]
 refine wpS_of_wp (wp_skip ?_)
 cases c₀
 simp_all [bodyPostS, results, Tryz.results33]
abbrev preW (w : World) (x : Value) (i : Int) : World := (((w.alloc (.cells #[.int .i64 0, .string ⟨#[]⟩, .slice none 0 0, .slice none 0 0] 25)).alloc (.cells #[.int .i64 0] 3)).alloc (.cells #[.int .i64 0] 28)).alloc (.cells #[x, .int .i64 i] 58)
theorem setCell_at {w : World} {g o : Nat} {v : Value} {arr : Array Value} {ty : TypeId} {fz : Nat × Nat} (h : w.heap[g]? = some (.cells arr ty fz)) : (w.setCell ⟨g, o, none⟩ v).heap[g]? = some (.cells (arr.setIfInBounds o v) ty fz) := by
 simp [World.setCell, Array.getElem?_modify, h]
theorem setCell_ne {w : World} {g o k : Nat} {v : Value} (h : g ≠ k) : (w.setCell ⟨g, o, none⟩ v).heap[k]? = w.heap[k]? := by
 simp [World.setCell, Array.getElem?_modify, h]
theorem setCell_size {w : World} {g o : Nat} {v : Value} : (w.setCell ⟨g, o, none⟩ v).heap.size = w.heap.size := by simp [World.setCell]
section
variable {w : World} {g0 g1 g2 : Nat} {er : Int} {x0 x1 x2 x3 y0 z0 : Value} (h0 : w.heap[g0]? = some (.cells #[x0, x1, x2, x3] 25 (0, 0))) (h1 : w.heap[g1]? = some (.cells #[y0] 3 (0, 0))) (h2 : w.heap[g2]? = some (.cells #[z0] 28 (0, 0)))
  (d1 : g0 ≠ g1) (d2 : g0 ≠ g2) (d3 : g1 ≠ g2)
include h0 d1 d2 in
theorem recW_0 : (recW w g0 g1 g2 er).heap[g0]? = some (.cells #[.int .i64 0, .string ⟨#[]⟩, .slice none 0 0, .slice none 0 0] 25 (0, 0)) := by
 unfold recW
 rw [setCell_ne (Ne.symm d2), setCell_ne (Ne.symm d1), setCell_at (setCell_at (setCell_at (setCell_at h0)))]
 rfl
include h1 d1 d3 in
theorem recW_1 : (recW w g0 g1 g2 er).heap[g1]? = some (.cells #[.int .i64 0] 3 (0, 0)) := by
 unfold recW
 rw [setCell_ne (Ne.symm d3), setCell_at (by rw [setCell_ne d1, setCell_ne d1, setCell_ne d1, setCell_ne d1]; exact h1)]
 rfl
include h2 d2 d3 in
theorem recW_2 : (recW w g0 g1 g2 er).heap[g2]? = some (.cells #[.int .i64 er] 28 (0, 0)) := by
 unfold recW
 rw [setCell_at (by rw [setCell_ne d3, setCell_ne d2, setCell_ne d2, setCell_ne d2, setCell_ne d2]; exact h2)]
 rfl
end
theorem read_err {x : Value} {i er : Int} {w : World} {J : World → Prop} (A : Option Addr) (n c : Nat) (hx : x = .slice A n c)
  (hJ : ∀ w', J w' → w'.heap[w.heap.size]? = some (.cells #[.int .i64 0, .string ⟨#[]⟩, .slice none 0 0, .slice none 0 0] 25 (0, 0)) ∧ w'.heap[w.heap.size + 1]? = some (.cells #[.int .i64 0] 3 (0, 0)) ∧ w'.heap[w.heap.size + 2]? = some (.cells #[.int .i64 0] 28 (0, 0)))
  (hd : Calls Tryz.prog 34 #[.pointer (some ⟨w.heap.size + 3, 0, none⟩), .int .i64 1] (preW w x i) fun e w' => e = .panicked (errC er) ∧ J w') :
  Calls Tryz.prog 17 #[x, .int .i64 i] w fun e w' => ∃ w1, J w1 ∧ e = .returned (.tuple #[.agg #[.int .i64 0, .string ⟨#[]⟩, .slice none 0 0, .slice none 0 0], .int .i64 0, .int .i64 er]) ∧ w' = recW w1 w.heap.size (w.heap.size + 1) (w.heap.size + 2) er := by
 have hmf : ∀ (fn : Fn) (first cap : Array Value) (w : World), (Instr.makeFunc fn first cap).run Tryz.prog w = .ok (.func fn first cap) w := fun _ _ _ _ => rfl
 subst hx
 go_enter_defers Tryz.func17, Tryz.ntmps17
 go_wp2_with (go_at_call 34; refine hd.mono ?_)
 rintro e w1 ⟨rfl, hj⟩
 obtain ⟨h0, h1, h2⟩ := hJ w1 hj
 refine leaves_cons (f := 33) (args := #[.pointer (some ⟨w.heap.size, 0, none⟩), .pointer (some ⟨w.heap.size + 1, 0, none⟩), .pointer (some ⟨w.heap.size + 1 + 1, 0, none⟩)]) (by simp) (by simp [go_sem]) ?_
 refine (catch_pan h0 h1 h2 (by omega) (by omega) (by omega)).mono ?_
 rintro e u' w' ⟨rfl, rfl, rfl⟩
 simp only [Leaves, settle, List.dropWhile_nil]
 refine ⟨_, ?_, w1, hj, rfl, rfl⟩
 have c0 := recW_0 (g1 := w.heap.size + 1) (g2 := w.heap.size + 1 + 1) (er := er) h0 (by omega) (by omega)
 have c1 := recW_1 (g0 := w.heap.size) (g2 := w.heap.size + 1 + 1) (er := er) h1 (by omega) (by omega)
 have c2 := recW_2 (g0 := w.heap.size) (g1 := w.heap.size + 1) (er := er) h2 (by omega) (by omega)
 generalize recW w1 w.heap.size (w.heap.size + 1) (w.heap.size + 1 + 1) er = W at c0 c1 c2
 have e0 : W.cell? ⟨w.heap.size, 0, none⟩ = some (.int .i64 0) := by simp [World.cell?, c0]
 have e1 : W.cell? ⟨w.heap.size, 1, none⟩ = some (.string ⟨#[]⟩) := by simp [World.cell?, c0]
 have e2 : W.cell? ⟨w.heap.size, 2, none⟩ = some (.slice none 0 0) := by simp [World.cell?, c0]
 have e3 : W.cell? ⟨w.heap.size, 3, none⟩ = some (.slice none 0 0) := by simp [World.cell?, c0]
 have e4 : W.cell? ⟨w.heap.size + 1, 0, none⟩ = some (.int .i64 0) := by simp [World.cell?, c1]
 have e5 : W.cell? ⟨w.heap.size + 1 + 1, 0, none⟩ = some (.int .i64 er) := by simp [World.cell?, c2]
 simp [results, Tryz.results17, go_sem, e0, e1, e2, e3, e4, e5]
 trace_state
structure Aft (s : Nat) (w w' : World) : Prop where
 out : Abs.Outer w w'
 size : w'.heap.size = w.heap.size
 same : ∀ k, k ≠ s → k ≠ s + 1 → k ≠ s + 2 → w'.heap[k]? = w.heap[k]?
theorem Aft.refl (s : Nat) (w : World) : Aft s w w := ⟨Abs.Outer.refl w, rfl, fun _ _ _ _ => rfl⟩
theorem Aft.set {s g o : Nat} {v : Value} {w w' : World} (h : Aft s w w') (hg : g = s ∨ g = s + 1 ∨ g = s + 2) : Aft s w (w'.setCell ⟨g, o, none⟩ v) :=
 ⟨h.out, setCell_size.trans h.size, fun k h0 h1 h2 => (setCell_ne (by omega)).trans (h.same k h0 h1 h2)⟩
theorem Aft.drew {s : Nat} {w w' : World} (h : Aft s w w') : Aft s w w'.drew := ⟨h.out, h.size, h.same⟩
theorem read_ret {x : Value} {i p : Int} {w : World} {J : Int → ByteArray → Option Addr → Nat → Nat → Option Addr → Nat → Nat → World → Prop} (A : Option Addr) (n c : Nat) (hx : x = .slice A n c)
  (hJ : ∀ a b X k1 l1 Y k2 l2 w', J a b X k1 l1 Y k2 l2 w' → w'.heap[w.heap.size]? = some (.cells #[.int .i64 0, .string ⟨#[]⟩, .slice none 0 0, .slice none 0 0] 25 (0, 0)) ∧ w'.heap[w.heap.size + 1]? = some (.cells #[.int .i64 0] 3 (0, 0)) ∧ w'.heap[w.heap.size + 2]? = some (.cells #[.int .i64 0] 28 (0, 0)) ∧
   w'.cell? ⟨w.heap.size + 3, 1, none⟩ = some (.int .i64 p))
  (hd : Calls Tryz.prog 34 #[.pointer (some ⟨w.heap.size + 3, 0, none⟩), .int .i64 1] (preW w x i) fun e w' => ∃ a b X k1 l1 Y k2 l2, e = .returned (.agg #[.int .i64 a, .string b, .slice X k1 l1, .slice Y k2 l2]) ∧ J a b X k1 l1 Y k2 l2 w') :
  Calls Tryz.prog 17 #[x, .int .i64 i] w fun e w' => ∃ a b X k1 l1 Y k2 l2 w1, J a b X k1 l1 Y k2 l2 w1 ∧ e = .returned (.tuple #[.agg #[.int .i64 a, .string b, .slice X k1 l1, .slice Y k2 l2], .int .i64 p, .int .i64 0]) ∧ Aft w.heap.size w1 w' := by
 have hmf : ∀ (fn : Fn) (first cap : Array Value) (w : World), (Instr.makeFunc fn first cap).run Tryz.prog w = .ok (.func fn first cap) w := fun _ _ _ _ => rfl
 subst hx
 go_enter_defers Tryz.func17, Tryz.ntmps17
 go_wp2_with (go_at_call 34; refine hd.mono ?_)
 rintro e w1 ⟨a, b, X, k1, l1, Y, k2, l2, rfl, hj⟩
 obtain ⟨h0, h1, h2, h3⟩ := hJ a b X k1 l1 Y k2 l2 w1 hj
 have e0 : w1.cell? ⟨w.heap.size, 0, none⟩ = some (.int .i64 0) := by simp [World.cell?, h0]
 have e1 : w1.cell? ⟨w.heap.size, 1, none⟩ = some (.string ⟨#[]⟩) := by simp [World.cell?, h0]
 have e2 : w1.cell? ⟨w.heap.size, 2, none⟩ = some (.slice none 0 0) := by simp [World.cell?, h0]
 have e3 : w1.cell? ⟨w.heap.size, 3, none⟩ = some (.slice none 0 0) := by simp [World.cell?, h0]
 have e4 : w1.cell? ⟨w.heap.size + 1, 0, none⟩ = some (.int .i64 0) := by simp [World.cell?, h1]
 have e5 : w1.cell? ⟨w.heap.size + 1 + 1, 0, none⟩ = some (.int .i64 0) := by simp [World.cell?, h2]
 have f0 : ∀ o, w1.frozen? ⟨w.heap.size, o, none⟩ = false := fun o => by simp [World.frozen?, h0]
 have f1 : ∀ o, w1.frozen? ⟨w.heap.size + 1, o, none⟩ = false := fun o => by simp [World.frozen?, h1]
 have f2 : ∀ o, w1.frozen? ⟨w.heap.size + 1 + 1, o, none⟩ = false := fun o => by simp [World.frozen?, h2]
 have n1 : w.heap.size + 1 ≠ w.heap.size := by omega
 have n2 : w.heap.size + 1 + 1 ≠ w.heap.size := by omega
 have n3 : w.heap.size + 1 + 1 + 1 ≠ w.heap.size := by omega
 have h3 : w1.cell? ⟨w.heap.size + 1 + 1 + 1, 1, none⟩ = some (.int .i64 p) := h3
 clear h0 h1 h2
 go_wp2
 obtain ⟨W, hW⟩ : ∃ W, W = ((((w1.setCell ⟨w.heap.size, 0, none⟩ (.int .i64 a)).setCell ⟨w.heap.size, 1, none⟩ (.string b)).setCell ⟨w.heap.size, 2, none⟩ (.slice X k1 l1)).setCell ⟨w.heap.size, 3, none⟩ (.slice Y k2 l2)) := ⟨_, rfl⟩
 rw [← hW]
 have g0 : W.cell? ⟨w.heap.size, 0, none⟩ = some (.int .i64 a) := by rw [hW]; simp [go_sem, e0, e1, e2, e3]
 have g1 : W.cell? ⟨w.heap.size, 1, none⟩ = some (.string b) := by rw [hW]; simp [go_sem, e0, e1, e2, e3]
 have g2 : W.cell? ⟨w.heap.size, 2, none⟩ = some (.slice X k1 l1) := by rw [hW]; simp [go_sem, e0, e1, e2, e3]
 have g3 : W.cell? ⟨w.heap.size, 3, none⟩ = some (.slice Y k2 l2) := by rw [hW]; simp [go_sem, e0, e1, e2, e3]
 have g4 : W.cell? ⟨w.heap.size + 1, 0, none⟩ = some (.int .i64 0) := by rw [hW]; simp [go_sem, e4, n1]
 have g5 : W.cell? ⟨w.heap.size + 1 + 1, 0, none⟩ = some (.int .i64 0) := by rw [hW]; simp [go_sem, e5, n2]
 have g6 : W.cell? ⟨w.heap.size + 1 + 1 + 1, 1, none⟩ = some (.int .i64 p) := by rw [hW]; simp [go_sem, h3, n3]
 have z0 : ∀ o, W.frozen? ⟨w.heap.size, o, none⟩ = false := fun o => by rw [hW]; simp [go_sem, f0]
 have z1 : ∀ o, W.frozen? ⟨w.heap.size + 1, o, none⟩ = false := fun o => by rw [hW]; simp [go_sem, f1]
 have z2 : ∀ o, W.frozen? ⟨w.heap.size + 1 + 1, o, none⟩ = false := fun o => by rw [hW]; simp [go_sem, f2]
 have hA : Aft w.heap.size w1 W := by
  rw [hW]
  exact ((((Aft.refl _ _).set (.inl rfl)).set (.inl rfl)).set (.inl rfl)).set (.inl rfl)
 clear e0 e1 e2 e3 e4 e5 h3 f0 f1 f2 hmf hd hW
 go_region_held3 (fun w' => w'.cell? ⟨w.heap.size, 0, none⟩ = some (.int .i64 a) ∧ w'.cell? ⟨w.heap.size, 1, none⟩ = some (.string b) ∧ w'.cell? ⟨w.heap.size, 2, none⟩ = some (.slice X k1 l1) ∧ w'.cell? ⟨w.heap.size, 3, none⟩ = some (.slice Y k2 l2) ∧ w'.cell? ⟨w.heap.size + 1 + 1 + 1, 1, none⟩ = some (.int .i64 p)) (((try dsimp only); (repeat' apply And.intro) <;> simp [go_sem, *])) (fail)
 go_wp2
 refine leaves_cons (f := 33) (args := #[.pointer (some ⟨w.heap.size, 0, none⟩), .pointer (some ⟨w.heap.size + 1, 0, none⟩), .pointer (some ⟨w.heap.size + 1 + 1, 0, none⟩)]) (by simp) (by simp [go_sem]) ?_
 refine catch_idle.mono ?_
 rintro e u' w' ⟨rfl, rfl, rfl⟩
 simp only [Leaves, settle]
 refine ⟨_, ?_, a, b, X, k1, l1, Y, k2, l2, w1, hj, rfl, ?_⟩
 ·simp [results, Tryz.results17, go_sem, g0, g1, g2, g3, g4, g5, n1, n2]
 ·exact ((((((hA.set (.inl rfl)).set (.inl rfl)).set (.inl rfl)).set (.inl rfl)).set (.inr (.inl rfl))).set (.inr (.inr rfl))).drew
open Go Go.Abs
variable {q : Gl} {t : T} {l : List Tok} {i : Nat}
def zDs : Ds := .mk 0 ⟨#[]⟩ [] []
def readT : Res Ds → T
 | .ok (d, p) => .tu [dT d, iv (p : Int), iv 0]
 | .error e => .tu [dT zDs, iv 0, iv e]
section
variable {w : World} {x : Value} {i : Int}
theorem preW_size : (preW w x i).heap.size = w.heap.size + 4 := by simp only [preW, World.alloc, Array.size_push]
theorem preW_old {k : Nat} (h : k < w.heap.size) : (preW w x i).heap[k]? = w.heap[k]? := by
 simp only [preW, World.alloc, Array.getElem?_push, Array.size_push]
 rw [if_neg (by omega), if_neg (by omega), if_neg (by omega), if_neg (by omega)]
theorem preW_0 : (preW w x i).heap[w.heap.size]? = some (.cells #[.int .i64 0, .string ⟨#[]⟩, .slice none 0 0, .slice none 0 0] 25 (0, 0)) := by
 simp only [preW, World.alloc, Array.getElem?_push, Array.size_push]
 rw [if_neg (by omega), if_neg (by omega), if_neg (by omega), if_pos trivial]
theorem preW_1 : (preW w x i).heap[w.heap.size + 1]? = some (.cells #[.int .i64 0] 3 (0, 0)) := by
 simp only [preW, World.alloc, Array.getElem?_push, Array.size_push]
 rw [if_neg (by omega), if_neg (by omega), if_pos trivial]
theorem preW_2 : (preW w x i).heap[w.heap.size + 2]? = some (.cells #[.int .i64 0] 28 (0, 0)) := by
 simp only [preW, World.alloc, Array.getElem?_push, Array.size_push]
 rw [if_neg (by omega), if_pos trivial]
theorem preW_3 : (preW w x i).heap[w.heap.size + 3]? = some (.cells #[x, .int .i64 i] 58 (0, 0)) := by
 simp only [preW, World.alloc, Array.getElem?_push, Array.size_push]
 rw [if_pos trivial]
theorem preW_out : Outer w (preW w x i) := ⟨rfl, rfl, rfl⟩
end
theorem rep_slice {α : Type} {e : Enc α} {l : List α} {I : Nat → Prop} {w : World} {t : T} {u : Value} (h : IsS e t l) (hr : RepT I w t u) : ∃ A n c, u = .slice A n c := by
 rcases h with ⟨rfl, rfl⟩ | rfl
 ·simp only [RepT] at hr
  exact ⟨_, _, _, hr⟩
 ·simp only [slT, RepT] at hr
  obtain ⟨a, c, e, _⟩ := hr
  exact ⟨_, _, _, e⟩
theorem recW_aft {w : World} {s : Nat} {er : Int} : Aft s w (recW w s (s + 1) (s + 2) er) :=
 (((((Aft.refl s w).set (.inl rfl)).set (.inl rfl)).set (.inl rfl)).set (.inl rfl) |>.set (.inr (.inl rfl))).set (.inr (.inr rfl))
theorem left_end {I I' : Nat → Prop} {w W0 w1 w' : World} (s0 : W0.heap.size = w.heap.size + 4) (old : ∀ k, k < w.heap.size → W0.heap[k]? = w.heap[k]?) (out : Outer w W0) (hL : Left I W0 (w.heap.size + 3) I' w1) (hA : Aft w.heap.size w1 w') :
  Outer w w' ∧ w.heap.size ≤ w'.heap.size ∧ (∀ g, g < w.heap.size → w'.heap[g]? = w.heap[g]?) ∧ (∀ g, I g → I' g) ∧ (∀ g, I' g → I g ∨ w.heap.size ≤ g) ∧ (∀ g, I' g → g < w'.heap.size) := by
 have h1 := hL.size
 rw [s0] at h1
 refine ⟨out.trans (hL.out.trans hA.out), by rw [hA.size]; omega, fun g hg => ?_, hL.more, fun g hg => ?_, fun g hg => by rw [hA.size]; exact hL.lt g hg⟩
 ·exact (hA.same g (by omega) (by omega) (by omega)).trans ((hL.same g (by omega) (by omega)).trans (old g hg))
 ·rcases hL.new g hg with h2 | h2 | h2
  ·exact .inl h2
  ·exact .inr (by omega)
  ·exact .inr (by omega)
theorem left_pre {I I' : Nat → Prop} {w W0 w1 : World} (s0 : W0.heap.size = w.heap.size + 4) (hL : Left I W0 (w.heap.size + 3) I' w1) {k : Nat} (hk : k < 3) : w1.heap[w.heap.size + k]? = W0.heap[w.heap.size + k]? := hL.same _ (by omega) (by omega)
theorem rep_zero {I : Nat → Prop} {w : World} : RepT I w (dT zDs) (.agg #[.int .i64 0, .string ⟨#[]⟩, .slice none 0 0, .slice none 0 0]) := by
 rw [zDs, dT, encD_eq]
 simp only [RepT, RepL, treeS]
 exact ⟨_, rfl, by simp [Value.oneCell'], _, _, rfl, rfl, _, _, rfl, rfl, _, _, rfl, rfl, _, _, rfl, rfl, rfl⟩
theorem rep_three {I : Nat → Prop} {w : World} {x : T} {v : Value} {a b : Int} (h : RepT I w x v) : RepT I w (.tu [x, iv a, iv b]) (.tuple #[v, .int .i64 a, .int .i64 b]) := by
 simp only [RepT, RepL]
 exact ⟨_, rfl, _, _, rfl, h, _, _, rfl, rfl, _, _, rfl, rfl, rfl⟩
theorem rep_dT {I : Nat → Prop} {w : World} {d : Ds} {v : Value} (hv : RepT I w (dT d) v) : ∃ a b X k1 l1 Y k2 l2, v = .agg #[.int .i64 a, .string b, .slice X k1 l1, .slice Y k2 l2] := by
 cases d with
 | mk op name path kids =>
  rw [dT, encD_eq] at hv
  simp only [RepT, RepL] at hv
  obtain ⟨us, rfl, _, a1, r1, e1, rfl, a2, r2, e2, rfl, a3, r3, e3, h3, a4, r4, e4, h4, e5⟩ := hv
  obtain ⟨X, k1, l1, rfl⟩ := rep_slice (IsS.tree eStr path) h3
  obtain ⟨Y, k2, l2, rfl⟩ := rep_slice (IsS.tree eD kids) h4
  subst e5; subst e4; subst e3; subst e2
  exact ⟨op, name, X, k1, l1, Y, k2, l2, by congr 1; rw [← Array.toList_inj]; exact e1⟩
theorem read_isFn : IsFn Tryz.prog 17 := ⟨_, _, Tryz.func17, rfl, rfl⟩
theorem read_ok (ht : IsS eTok t l) (hlim : l.length ≤ 1000000) (hi : i ≤ l.length) : CallT Tryz.prog (G q) 17 [t, iv (i : Int)] (· = readT (desS (l.map kt) 64 i)) := by
 refine ⟨read_isFn, fun I w us hlt hglob hrep => ?_⟩
 obtain ⟨x, hx, rfl, A, n, c, rfl⟩ : ∃ x, RepT I w t x ∧ us = #[x, .int .i64 (i : Int)] ∧ ∃ A n c, x = .slice A n c := by
  simp only [RepL, RepT] at hrep
  obtain ⟨x, xs, e1, hx, y, ys, e2, e3, e4⟩ := hrep
  subst e3; subst e4; subst e2
  refine ⟨x, hx, ?_, rep_slice ht hx⟩
  rw [← Array.toList_inj]
  exact e1
 have hkp : Keeps I I w (preW w (.slice A n c) i) := fun b hb => ⟨hb, preW_old (hlt b hb)⟩
 have s0 := preW_size (w := w) (x := .slice A n c) (i := (i : Int))
 have old : ∀ k, k < w.heap.size → (preW w (.slice A n c) i).heap[k]? = w.heap[k]? := fun k hk => preW_old hk
 have w0 := preW_0 (w := w) (x := .slice A n c) (i := (i : Int))
 have w1 := preW_1 (w := w) (x := .slice A n c) (i := (i : Int))
 have w2 := preW_2 (w := w) (x := .slice A n c) (i := (i : Int))
 have hout := preW_out (w := w) (x := .slice A n c) (i := (i : Int))
 have hlt3 : ¬ I (w.heap.size + 3) := fun h => by have := hlt _ h; omega
 have hlt4 : ∀ b, I b → b < (preW w (.slice A n c) i).heap.size := fun b hb => by have := hlt b hb; rw [s0]; exact Nat.lt_of_lt_of_le this (Nat.le_add_right _ _)
 have hD := des_world (q := q) (w := preW w (.slice A n c) i) (g := w.heap.size + 3) (I := I) ht hlim hlt4
  (fun g cs h => ⟨(hglob g cs h).1, RepG.keep hkp (hglob g cs h).1 (hglob g cs h).2⟩) (RepT.keep hkp t hx) rfl hi preW_3 hlt3
 cases hd : desS (l.map kt) 64 i with
 | error er =>
  rw [hd] at hD
  have hR := read_err (er := er) (J := fun w' => ∃ I', Left I (preW w (.slice A n c) i) (w.heap.size + 3) I' w') A n c rfl (fun w' ⟨I', h⟩ =>
   ⟨(left_pre (k := 0) s0 h (by omega)).trans w0, (left_pre (k := 1) s0 h (by omega)).trans w1, (left_pre (k := 2) s0 h (by omega)).trans w2⟩) (hD.mono fun e w' ⟨I', h1, h2⟩ => ⟨h1, I', h2⟩)
  refine hR.mono ?_
  rintro e w' ⟨v1, ⟨I', hL⟩, rfl, rfl⟩
  exact ⟨_, _, I', rfl, rfl, rep_three rep_zero, left_end s0 old hout hL recW_aft⟩
 | ok y =>
  obtain ⟨d, p⟩ := y
  rw [hd] at hD
  have hR := read_ret (p := (p : Int)) (J := fun a b X k1 l1 Y k2 l2 w' => ∃ I', RepT I' w' (dT d) (.agg #[.int .i64 a, .string b, .slice X k1 l1, .slice Y k2 l2]) ∧ w'.cell? ⟨w.heap.size + 3, 1, none⟩ = some (.int .i64 (p : Int)) ∧ Left I (preW w (.slice A n c) i) (w.heap.size + 3) I' w' ∧ ¬ I' (w.heap.size + 3)) A n c rfl (fun a b X k1 l1 Y k2 l2 w' ⟨I', _, hc, h, _⟩ =>
   ⟨(left_pre (k := 0) s0 h (by omega)).trans w0, (left_pre (k := 1) s0 h (by omega)).trans w1, (left_pre (k := 2) s0 h (by omega)).trans w2, hc⟩) (hD.mono fun e w' ⟨I', h1, h2⟩ => by
   obtain ⟨v, arr, rfl, hv, ha, hp, hn⟩ := h1
   obtain ⟨a, b, X, k1, l1, Y, k2, l2, rfl⟩ := rep_dT hv
   exact ⟨a, b, X, k1, l1, Y, k2, l2, rfl, I', hv, by simp only [World.cell?, ha]; exact hp, h2, hn⟩)
  refine hR.mono ?_
  rintro e w' ⟨a, b, X, k1, l1, Y, k2, l2, v1, ⟨I', hv, _, hL, hn⟩, rfl, hA⟩
  have hI : ∀ b, I' b → b ≠ w.heap.size ∧ b ≠ w.heap.size + 1 ∧ b ≠ w.heap.size + 2 := fun b hb => by
   rcases hL.new b hb with h2 | h2 | h2
   ·have := hlt b h2
    clear hR hD w0 w1 w2
    omega
   ·rw [s0] at h2
    clear hR hD w0 w1 w2
    omega
   ·rw [h2] at hb; exact absurd hb hn
  have hk2 : Keeps I' I' v1 w' := fun b hb => ⟨hb, hA.same b (hI b hb).1 (hI b hb).2.1 (hI b hb).2.2⟩
  exact ⟨_, _, I', rfl, rfl, rep_three (RepT.keep hk2 _ hv), left_end s0 old hout hL hA⟩
section
variable {l : List KT} {rec : Nat → Res Ds}
def Errs {α : Type} (rec : Nat → Res α) : Prop := ∀ p e, rec p = .error e → e ≠ 0
theorem take_err {p : Nat} {k e : Int} (h : takeK l p k = .error e) : e ≠ 0 := by
 unfold takeK at h
 split at h
 ·injection h with h; omega
 ·split at h
  ·cases h
  ·injection h with h; omega
theorem skip_err {p : Nat} {s : List UInt8} {e : Int} (h : skipK l p s = .error e) : e ≠ 0 := by
 unfold skipK at h
 split at h
 ·injection h with h; omega
 ·split at h
  ·cases h
  ·injection h with h; omega
theorem path_err : ∀ (f p : Nat) (path : List ByteArray) (e : Int), l.length - p < f → pathS l f p path = .error e → e ≠ 0
 | 0, p, path, e, hf, _ => by omega
 | f + 1, p, path, e, hf, h => by
  rw [pathS] at h
  split at h
  ·rename_i hs
   have hl := isSy_lt hs
   split at h
   ·injection h with h; omega
   ·split at h
    ·rename_i h1; injection h with h; subst h; exact take_err h1
    ·rename_i s p1 h1
     have := take_fwd h1
     exact path_err f _ _ _ (by omega) h
  ·cases h
theorem pair_err (hr : Errs rec) : Errs (pairS l rec) := fun p e h => by
 unfold pairS at h
 split at h
 ·rename_i h1; injection h with h; subst h; exact take_err h1
 ·rename_i s p1 h1
  split at h
  ·rename_i h2; injection h with h; subst h; exact path_err _ _ _ _ (by omega) h2
  ·rename_i path p2 h2
   split at h
   ·rename_i h3; injection h with h; subst h; exact hr _ _ h3
   ·cases h
theorem br_err (hr : Errs rec) (hf : Fwd l rec) : ∀ (f p : Nat) (parts : List Ds) (e : Int), l.length - p < f → brS l rec f p parts = .error e → e ≠ 0
 | 0, p, parts, e, hl, _ => by omega
 | f + 1, p, parts, e, hl, h => by
  rw [brS] at h
  split at h
  ·rename_i h1; injection h with h; subst h; exact pair_err hr _ _ h1
  ·rename_i d p1 h1
   have h2 := pair_fwd hf h1
   split at h
   ·rename_i hs
    have := isSy_lt hs
    split at h
    ·injection h with h; omega
    ·exact br_err hr hf f _ _ _ (by omega) h
   ·split at h
    ·rename_i h3; injection h with h; subst h; exact skip_err h3
    ·cases h
theorem it_err (hr : Errs rec) (hf : Fwd l rec) : ∀ (f p : Nat) (kids : List Ds) (e : Int), l.length - p < f → itS l rec f p kids = .error e → e ≠ 0
 | 0, p, kids, e, hl, _ => by omega
 | f + 1, p, kids, e, hl, h => by
  rw [itS] at h
  split at h
  ·rename_i hs
   have := isSy_lt hs
   split at h
   ·injection h with h; omega
   ·split at h
    ·rename_i h1; injection h with h; subst h; exact hr _ _ h1
    ·rename_i d p1 h1
     have := hf _ _ _ h1
     exact it_err hr hf f _ _ _ (by omega) h
  ·cases h
theorem close_err {s : List UInt8} {op : Int} {kids : List Ds} {p : Nat} {e : Int} (h : closeS l s op kids p = .error e) : e ≠ 0 := by
 unfold closeS at h
 split at h
 ·rename_i h1; injection h with h; subst h; exact skip_err h1
 ·cases h
theorem lst_err (hr : Errs rec) (hf : Fwd l rec) : Errs (lstS l rec) := fun p e h => by
 unfold lstS at h
 split at h
 ·injection h with h; omega
 ·split at h
  ·exact close_err h
  ·split at h
   ·rename_i h1; injection h with h; subst h; exact hr _ _ h1
   ·rename_i d1 p1 h1
    split at h
    ·rename_i h2; injection h with h; subst h; exact it_err hr hf _ _ _ _ (by omega) h2
    ·split at h
     ·split at h
      ·injection h with h; omega
      ·split at h
       ·rename_i h3; injection h with h; subst h; exact hr _ _ h3
       ·exact close_err h
     ·exact close_err h
theorem dff_err (hr : Errs rec) (hf : Fwd l rec) : Errs (dffS l rec) := fun p e h => by
 unfold dffS at h
 split at h
 ·injection h with h; omega
 ·split at h
  ·exact close_err h
  ·split at h
   ·rename_i h1; injection h with h; subst h; exact hr _ _ h1
   ·rename_i d1 p1 h1
    split at h
    ·rename_i h2; injection h with h; subst h; exact it_err hr hf _ _ _ _ (by omega) h2
    ·exact close_err h
theorem more_err {parts : List Ds} {r : Res Ds} {e : Int} (hr : ∀ e, r = .error e → e ≠ 0) (h : moreS parts r = .error e) : e ≠ 0 := by
 unfold moreS at h
 split at h
 ·injection h with h; subst h; exact hr _ rfl
 ·cases h
theorem name_err {op k : Int} {p : Nat} {e : Int} (h : nameS op (takeK l p k) = .error e) : e ≠ 0 := by
 unfold nameS at h
 split at h
 ·rename_i h1; injection h with h; subst h; exact take_err h1
 ·cases h
theorem term_err (hr : Errs rec) (hf : Fwd l rec) {p : Nat} {parts : List Ds} {e : Int} (h : termS l rec p parts = .error e) : e ≠ 0 := by
 unfold termS at h
 split at h
 ·injection h with h; omega
 ·split at h
  ·cases h
  ·split at h
   ·injection h with h; omega
   ·split at h
    ·exact more_err (fun e h => name_err h) h
    ·split at h
     ·exact more_err (fun e h => name_err h) h
     ·split at h
      ·exact br_err hr hf _ _ _ _ (by omega) h
      ·split at h
       ·exact more_err (fun e h => lst_err hr hf _ _ h) h
       ·split at h
        ·exact more_err (fun e h => dff_err hr hf _ _ h) h
        ·injection h with h; omega
theorem and_err (hr : Errs rec) (hf : Fwd l rec) : ∀ (f p : Nat) (parts : List Ds) (e : Int), l.length - p < f → andS l rec f p parts = .error e → e ≠ 0
 | 0, p, parts, e, hl, _ => by omega
 | f + 1, p, parts, e, hl, h => by
  rw [andS] at h
  split at h
  ·rename_i hs
   have := isSy_lt hs
   split at h
   ·injection h with h; omega
   ·split at h
    ·rename_i h1; injection h with h; subst h; exact term_err hr hf h1
    ·rename_i parts' p1 h1
     have := term_fwd hf h1
     exact and_err hr hf f _ _ _ (by omega) h
  ·cases h
end
theorem des_err {l : List KT} : ∀ n, Errs (desS l n)
 | 0 => fun p e h => by
  unfold desS at h
  split at h
  ·injection h with h; omega
  ·injection h with h; omega
 | n + 1 => fun p e h => by
  unfold desS at h
  split at h
  ·injection h with h; omega
  ·split at h
   ·rename_i h1; injection h with h; subst h; exact term_err (des_err n) (des_fwd n) h1
   ·rename_i parts p1 h1
    split at h
    ·rename_i h2; injection h with h; subst h; exact and_err (des_err n) (des_fwd n) _ _ _ _ (by omega) h2
    ·cases h
variable {q : Gl} {t : T} {l : List Tok} {i : Nat}
section
mutual
theorem ren_same : ∀ p : PV, ren (fun x => x) p = p
 | .t _ => rfl
 | .row _ _ _ _ => rfl
 | .ptr _ _ => rfl
 | .ag cs => by simp only [ren, renL_same cs]
 | .tu cs => by simp only [ren, renL_same cs]
 | .fn _ a c => by simp only [ren, renL_same a, renL_same c]
 | .ic _ x => by simp only [ren, ren_same x]
 | .mp _ => rfl
 | .dead => rfl
theorem renL_same : ∀ ps : List PV, renL (fun x => x) ps = ps
 | [] => rfl
 | p :: ps => by simp only [renL, ren_same p, renL_same ps]
end
theorem renRow_same (r : Row) : renRow (fun x => x) r = r := by
 cases r with
 | cells ty cs => simp only [renRow, renL_same]
 | iter s p => rfl
theorem sub_frzR {P : Program} {G : Globs} {B nx nx' n : Nat} {env env' : List (Nat × PV)} {H H' : Heap} (F : List Nat) (hB : B ≤ nx') (he : ∀ x ∈ env', ∃ p, Abs.look env x.1 = some p ∧ frzP H F p = x.2 ∧ under nx' x.2 = true)
  (hH : ∀ x ∈ H', x.1 ∉ F ∧ x.1 < nx' ∧ underRow nx' x.2 = true ∧ ∃ r, Abs.look H x.1 = some r ∧ frzRow H F r = x.2) : Sub P G B ⟨env, H, nx, n⟩ ⟨env', H', nx', n⟩ := by
 have hs : Sub P G B ⟨env, H, nx, n⟩ (AState.frz ⟨env, H, nx, n⟩ F) := sub_frz F
 refine hs.trans (sub_ren (fun x => x) rfl hB (fun _ _ => rfl) (fun x hx => ?_) (fun x hx => ?_) (fun _ _ _ _ e => e))
 ·obtain ⟨p, h1, h2, h3⟩ := he x hx
  refine ⟨?_, h3⟩
  simp only [AState.frz, look_map, h1, Option.map_some, h2, ren_same]
 ·obtain ⟨h1, h2, h3, r, h4, h5⟩ := hH x hx
  refine ⟨?_, h2, h3⟩
  rw [renRow_same, ← h5]
  exact frz_look h4 h1
theorem frzP_tree (H : Heap) (F : List Nat) (x : T) : frzP H F (.t x) = .t x := rfl
theorem frzP_ptr (H : Heap) (F : List Nat) (b o : Nat) : frzP H F (.ptr b o) = .ptr b o := rfl
theorem st1 (H : Heap) (a b c d : T) (y z u v : PV) : storeM 4 ((1, .cells 25 [y, z, u, v]) :: H) (.ptr 1 0) (.t (.ag [a, b, c, d])) = some ((1, .cells 25 [.t a, .t b, .t c, .t d]) :: H) := rfl
theorem bdZ {Φ : Oracle} {H : Heap} {nx : Nat} : evalK Φ H nx (.build [(0, 1), (1, 1), (2, 1), (3, 1)] [.int .i64 0, .string ⟨#[]⟩, .slice none 0 0, .slice none 0 0] []) [] = some (.t (dT zDs), H, nx) := by
 rw [zDs, dT, encD_eq]; rfl
end
structure Rp where
 f : Nat
 p : Nat
 path : List ByteArray
variable {q : Gl} {t : T} {l : List Tok} {i : Nat}
structure Rb where
 f : Nat
 p : Nat
 parts : List Ds
variable {q : Gl} {t : T} {l : List Tok} {i : Nat}
theorem st_z1 (R : Heap) (d : Ds) : storeM 4 ((1, zD) :: R) (.ptr 1 0) (.t (dT d)) = some ((1, .cells 25 ((encD d).map .t)) :: R) := by
 cases d; rw [dT, encD]; rfl
variable {q : Gl} {t : T} {l : List Tok} {i : Nat}
theorem st_z0' (d : Ds) (R : Heap) : storeM 4 ((0, zD) :: R) (.ptr 0 0) (.t (dT d)) = some ((0, .cells 25 ((encD d).map .t)) :: R) := by
 cases d; rw [dT, encD]; rfl
variable {q : Gl}
def scanT (l : List UInt8) : T := if 65536 < l.length then .tu [nilS, iv 0, iv 7] else match scanS l 1 with
 | .error x => .tu [nilS, iv (x.1 : Int), iv x.2]
 | .ok ts => .tu [treeS eTok ts, iv 0, iv 0]
theorem toT_tu3 {α : Type} {e : Enc α} {ty : Nat} {H : Heap} {b : Nat} {l : List α} (h : RowAt e ty H b l) (y z : T) :
  toT H (oneOf [rowP e b l, .t y, .t z]) = some (.tu [treeS e l, y, z], lentS b l) := by
 have ht := h.toT
 cases l with
 | nil => rfl
 | cons x r =>
  show toT H (.tu [rowP e b (x :: r), .t y, .t z]) = _
  simp only [toT, toTs, ht, Option.map_some, List.append_nil]
structure Sc where
 f : Nat
 p : Nat
 ln : Nat
 out : List Tok
def SSc (s : ByteArray) (a : Sc) : AState := ⟨[(6, rowP eTok 1 a.out), (5, .ptr 0 0), (0, .t (sv s))], [(0, scr s a.p a.ln)] ++ rowH eTok 44 1 a.out, 2, 43⟩
structure OkSc (l : List UInt8) (R : Except (Nat × Int) (List Tok)) (a : Sc) : Prop where
 le : a.p ≤ l.length
 fu : l.length - a.p < a.f
 ln : a.ln ≤ a.p + 1
 ol : a.out.length ≤ a.p
 eq : ahead a.out (scanG a.f (l.drop a.p) a.ln) = R
theorem skip_low (s : ByteArray) (a l : Nat) (hs : s.size ≤ 65536) (ha : a ≤ s.size) (hl : l ≤ 1000000) {H : Heap} {nx : Nat} (h0 : Abs.look H 0 = some (scr s a l)) (hnx : 0 < nx) :
  HOK Tryz.prog (G q) 61 (hOne [.ptr 0 0] H nx (oneOf [], upd H 0 (scr s (a + (skipS false (s.data.toList.drop a)).1) (l + (skipS false (s.data.toList.drop a)).2)), nx)) := by
 refine hOne_ok ?_ ?_
 ·exact CallP.lift1 (cs := scc s a l) (args := []) (cs' := scc s (a + (skipS false (s.data.toList.drop a)).1) (l + (skipS false (s.data.toList.drop a)).2)) (skip_call s a l hs ha hl) (b := 0) (NX := nx) (Hb := H) h0 hnx
 ·intro hfr b x hb
  rw [look_upd] at hb
  split at hb
  ·omega
  ·exact hfr b x hb
theorem next_low (s : ByteArray) (a l : Nat) (hs : s.size ≤ 65536) (ha : a < s.size) {H : Heap} {nx : Nat} (h0 : Abs.look H 0 = some (scr s a l)) (hnx : 0 < nx) :
  HOK Tryz.prog (G q) 62 (hOne [.ptr 0 0] H nx (.t (tokT (nextS (s.data.toList.drop a)).k (nextS (s.data.toList.drop a)).t l (nextS (s.data.toList.drop a)).e), upd H 0 (scr s (a + (nextS (s.data.toList.drop a)).n) l), nx)) := by
 refine hOne_ok ?_ ?_
 ·exact CallP.lift1 (cs := scc s a l) (args := []) (cs' := scc s (a + (nextS (s.data.toList.drop a)).n) l) (next_call s a l hs ha) (b := 0) (NX := nx) (Hb := H) h0 hnx
 ·intro hfr b x hb
  rw [look_upd] at hb
  split at hb
  ·omega
  ·exact hfr b x hb
theorem st2 (k l : Int) (t : List UInt8) (x y z : PV) (R : Heap) : storeM 3 ((2, .cells 44 [x, y, z]) :: R) (.ptr 2 0) (.t (.ag (tkc k t l))) = some ((2, tkr k t l) :: R) := rfl
theorem ld2 (t : Row) (s : ByteArray) (a l : Nat) (R : Heap) : loadM false 1 ((2, t) :: (0, scr s a l) :: R) (.ptr 0 2) = some (.t (iv (l : Int))) := rfl
theorem ldt (k l : Int) (t : List UInt8) (R : Heap) : loadM true 3 ((2, tkr k t l) :: R) (.ptr 2 0) = some (.t (.ag (tkc k t l))) := rfl
theorem bst (k l : Int) (t : List UInt8) : bsliceM 44 3 [.int .i64 0, .string ⟨#[]⟩, .int .i64 0] 1 [(0, .t (.ag (tkc k t l)))] 3 = some (.row 3 0 1 3, .cells 44 [.t (iv k), .t (sv (bs t)), .t (iv l)]) := rfl
theorem bldSc {Φ : Oracle} {H : Heap} {nx : Nat} (s : ByteArray) (l : Int) : evalK Φ H nx (.build [(0, 1), (1, 1), (2, 1)] [.string ⟨#[]⟩, .int .i64 0, .int .i64 0] [0, 2]) [.t (sv s), .t (iv l)] = some (.t (.ag [sv s, iv 0, iv l]), H, nx) := rfl
set_option maxHeartbeats 2000000 in
theorem scan_call (s : ByteArray) (hlim : s.size ≤ lim) : CallT Tryz.prog (G q) 36 [sv s] (· = scanT s.data.toList) := by
 refine k_text_Scan.call rfl ?_
 unfold M_text_Scan
 obtain ⟨l, hl⟩ : ∃ l, l = s.data.toList := ⟨_, rfl⟩
 have hlen : l.length = s.size := by rw [hl]; rfl
 rw [← hl]
 by_cases hbig : 65536 < s.size
 ·have hb' : (65536 : Int) < (s.size : Int) := by omega
  have hT : scanT l = .tu [nilS, iv 0, iv 7] := by rw [scanT, if_pos (by omega)]
  refine mc_runs ctx0 ?_
  simp -implicitDefEqProofs [hb', hT]
 have hb' : ¬ (65536 : Int) < (s.size : Int) := by omega
 have hs : s.size ≤ 65536 := by omega
 have hT : scanT l = match scanS l 1 with
  | .error x => .tu [nilS, iv (x.1 : Int), iv x.2]
  | .ok ts => .tu [treeS eTok ts, iv 0, iv 0] := by rw [scanT, if_neg (by omega)]
 obtain ⟨R, hR⟩ : ∃ R, R = scanS l 1 := ⟨_, rfl⟩
 rw [← hR] at hT
 refine mc_seq_runs ctx0 ?_
 simp -implicitDefEqProofs
 refine mc_seq_runs ctx0 ?_
 simp -implicitDefEqProofs [hb']
 refine mc_seq_runs ctx0 ?_
 have bx : cellsP (.t (.ag [sv s, iv 0, iv 1])) = some [.t (sv s), .t (iv 0), .t (iv 1)] := rfl
 simp -implicitDefEqProofs [-evalK_build, bldSc, bx]
 refine mc_seq_runs ctx0 ?_
 simp -implicitDefEqProofs
 have hk0 := skip_low (q := q) s 0 1 hs (by omega) (by omega) (H := [(0, scr s 0 1)]) (nx := 1) rfl (by omega)
 have hsl := skip_le l false
 have hsn := skip_nl l false
 rw [← hl, List.drop_zero] at hk0
 obtain ⟨p0, hp0⟩ : ∃ p0, p0 = 0 + (skipS false l).1 := ⟨_, rfl⟩
 obtain ⟨l0, hl0⟩ : ∃ l0, l0 = 1 + (skipS false l).2 := ⟨_, rfl⟩
 rw [← hp0, ← hl0] at hk0
 have ctxa := TblOK.nil.ctxH (.cons hk0 .nil) mixed
 have h1 := fun ps H nx o => hOne_eq ps H nx o
 refine mc_cut (α := Sc) (SSc s) (fun a => OkSc l R a ∧ a.p = s.size) (fun _ => rfl) ?_ ?_
 ·refine mc_seq_runs ctxa ?_
  have ho : ∀ o, hOne [.ptr 0 0] [(0, scr s 0 1)] 1 o [.ptr 0 0] [(0, Row.cells 89 [.t (sv s), .t (iv 0), .t (iv 1)])] 1 = some o := fun o => hOne_eq _ _ _ _
  simp -implicitDefEqProofs [ho, upd]
  refine mc_block ?_
  refine mc_while (SSc s) (fun a => a.f) (OkSc l R) ⟨l.length + 1, p0, l0, []⟩ (fun _ => rfl) ⟨by show p0 ≤ _; omega, by show l.length - p0 < l.length + 1; omega, by show l0 ≤ p0 + 1; omega, by simp, ?_⟩ ?_ rfl ?_
  ·show ahead [] (scanG (l.length + 1) (l.drop p0) l0) = R
   rw [ahead_nil, hR, scanS, hp0, hl0, Nat.zero_add]
  ·exact sub_rowR (k := 5) (RowAt.nil eTok 44 _ _) (by omega) (by omega) (by simp -implicitDefEqProofs [renRow, renL, ren, underRow, underL, under]) (by simp -implicitDefEqProofs [rowP, ren, under])
  ·rintro ⟨f, p, ln, out⟩ hok
   have hok' := hok
   obtain ⟨hp, hfu, hln, hol, heq⟩ := hok
   simp only at hp hfu hln hol heq
   have r0 : RowAt eTok 44 ([(0, scr s p ln)] ++ rowH eTok 44 1 out) 1 out := (RowAt.head' eTok 44 1 out).cons (by omega)
   by_cases hlt : p < s.size
   ·have hn := next_low (q := q) s p ln hs hlt (H := [(0, scr s p ln)] ++ rowH eTok 44 1 out) (nx := 2) rfl (by omega)
    obtain ⟨D, hD⟩ : ∃ D, D = l.drop p := ⟨_, rfl⟩
    have hDl : D.length = l.length - p := by rw [hD, List.length_drop]
    have hDe : D.isEmpty = false := by
     cases D with
     | nil => simp at hDl; omega
     | cons _ _ => rfl
    rw [← hl, ← hD] at hn
    rw [← hD] at heq
    obtain ⟨f', rfl⟩ : ∃ f', f = f' + 1 := ⟨f - 1, by omega⟩
    rw [scanG, hDe] at heq
    simp only [Bool.false_eq_true, if_false] at heq
    obtain ⟨k, hk⟩ : ∃ k, k = (nextS D).k := ⟨_, rfl⟩
    obtain ⟨t, ht⟩ : ∃ t, t = (nextS D).t := ⟨_, rfl⟩
    obtain ⟨e, he⟩ : ∃ e, e = (nextS D).e := ⟨_, rfl⟩
    obtain ⟨n, hnn⟩ : ∃ n, n = (nextS D).n := ⟨_, rfl⟩
    have hpos := next_pos D hDe
    rw [← hk, ← ht, ← he, ← hnn] at hn
    rw [← he, ← hnn] at hpos
    rw [← hk, ← ht, ← he, ← hnn] at heq
    obtain ⟨p1, hp1⟩ : ∃ p1, p1 = p + n := ⟨_, rfl⟩
    rw [← hp1] at hn
    have hu0 : upd ([(0, scr s p ln)] ++ rowH eTok 44 1 out) 0 (scr s p1 ln) = [(0, scr s p1 ln)] ++ rowH eTok 44 1 out := by
     simp [upd]
    rw [hu0] at hn
    by_cases he0 : e = 0
    ·obtain ⟨hn1, hn2⟩ := hpos he0
     rw [if_neg (by simpa using he0)] at heq
     have hdd : D.drop n = l.drop p1 := by rw [hD, List.drop_drop, hp1]
     rw [hdd] at heq
     have hsl1 := skip_le (l.drop p1) false
     have hsn1 := skip_nl (l.drop p1) false
     rw [List.length_drop] at hsl1
     obtain ⟨p2, hp2⟩ : ∃ p2, p2 = p1 + (skipS false (l.drop p1)).1 := ⟨_, rfl⟩
     obtain ⟨ln2, hln2⟩ : ∃ x, x = ln + (skipS false (l.drop p1)).2 := ⟨_, rfl⟩
     have hdd2 : (l.drop p1).drop (skipS false (l.drop p1)).1 = l.drop p2 := by rw [List.drop_drop, hp2]
     rw [hdd2, ← hln2] at heq
     have htok : tokT k t ln e = .tu [.ag (tkc k t ln), iv e] := by rw [tokT, if_pos he0, he0]
     have hb : (e != 0) = false := by rw [he0]; rfl
     have r0' : RowAt eTok 44 ((3, .cells 44 [.t (iv k), .t (sv (bs t)), .t (iv (ln : Int))]) :: (2, tkr k t ln) :: ([(0, scr s p1 ln)] ++ rowH eTok 44 1 out)) 1 out :=
      (((RowAt.head' eTok 44 1 out).cons (k := 0) (by omega)).cons (k := 2) (by omega)).cons (k := 3) (by omega)
     obtain ⟨b2, H2, n2, ap2, r2, ne2, hle2, hold, hb2⟩ := app_some (e := eTok) (ty := 44) (by' := 32) (nx := 4) (m := [⟨k, t, ln⟩]) r0' (src_one (e := eTok) (b := 3) (ty := 44) ⟨k, t, ln⟩ rfl) (by simp; omega) (by simp; omega)
     have ap2' : appM 44 3 32 ((3, .cells 44 [.t (iv k), .t (sv (bs t)), .t (iv (ln : Int))]) :: (2, tkr k t ln) :: (0, scr s p1 ln) :: rowH eTok 44 1 out) 4 (rowP eTok 1 out) (.row 3 0 1 3) = some (rowP eTok b2 (out ++ [⟨k, t, ln⟩]), H2, n2) := ap2
     have hl0' : Abs.look H2 0 = some (scr s p1 ln) := (hold 0 (by omega) (by omega)).trans rfl
     have hsk := skip_low (q := q) s p1 ln hs (by omega) (by omega) (H := H2) (nx := n2) hl0' (by omega)
     rw [← hl, ← hp2, ← hln2] at hsk
     have ctxb := TblOK.nil.ctxH (.cons hn (.cons hsk .nil)) mixed
     refine mc_runs ctxb ?_
     simp -implicitDefEqProofs [SSc, sl1, hlt, h1, htok, extractV, hb, st2, ldt, bst, ap2']
     refine Abs.Next.mk ⟨f', p2, ln2, out ++ [⟨k, t, ln⟩]⟩ ⟨⟨by show p2 ≤ _; omega, by show l.length - p2 < f'; omega, by show ln2 ≤ p2 + 1; omega, by simp; omega, ?_⟩, by show f' < f' + 1; omega⟩ ?_
     ·show ahead (out ++ [⟨k, t, ln⟩]) (scanG f' (l.drop p2) ln2) = R
      rw [← heq]
      cases scanG f' (l.drop p2) ln2 with
      | error x => rfl
      | ok ts => show Except.ok _ = Except.ok _; simp
     ·have r2' : RowAt eTok 44 (upd H2 0 (scr s p2 ln2)) b2 (out ++ [⟨k, t, ln⟩]) := r2.imp id fun h => by rw [look_upd, if_neg (by omega)]; exact h
      have h02 : Abs.look (upd H2 0 (scr s p2 ln2)) 0 = some (scr s p2 ln2) := by rw [look_upd, if_pos rfl, hl0']; rfl
      exact sub_rowR (k := b2) r2' (by omega) (by omega) (by simp -implicitDefEqProofs [renRow, renL, ren, underRow, underL, under, h02]; omega) (by simp -implicitDefEqProofs [ren_rowP, under_rowP, ren, under])
    ·have hRe : R = .error (ln, e) := by
      rw [← heq, if_pos he0]; rfl
     rw [hRe] at hT
     simp only at hT
     have ctxb := TblOK.nil.ctxH (.cons hn .nil) mixed
     refine mc_runs ctxb ?_
     have hb : (e != 0) = true := by rw [bne_iff_ne]; exact he0
     have htok : tokT k t ln e = .tu [.ag (tkc 0 [] 0), iv e] := by rw [tokT, if_neg he0]
     simp -implicitDefEqProofs [SSc, sl1, hlt, h1, htok, extractV, hb, hT, st2, ld2]
   ·have hps : p = s.size := by omega
    subst hps
    refine mc_runs ctx0 ?_
    simp -implicitDefEqProofs [SSc, sl1]
    refine Abs.Next.mk ⟨f, s.size, ln, out⟩ ⟨hok', rfl⟩ ?_
    exact sub_rowR (k := 1) r0 (by omega) (by omega) (by simp -implicitDefEqProofs [renRow, renL, ren, underRow, underL, under]) (by simp -implicitDefEqProofs [ren_rowP, under_rowP, ren, under])
 rintro ⟨f, p, ln, out⟩ ⟨hok, hps⟩
 obtain ⟨hp, hfu, hln, hol, heq⟩ := hok
 simp only at hp hfu hln hol heq hps
 subst hps
 have r0 : RowAt eTok 44 ([(0, scr s s.size ln)] ++ rowH eTok 44 1 out) 1 out := (RowAt.head' eTok 44 1 out).cons (by omega)
 have hd0 : l.drop s.size = [] := List.drop_eq_nil_of_le (by omega)
 have hRo : R = .ok out := by
  rw [← heq, hd0]
  cases f with
  | zero => show Except.ok (out ++ []) = _; rw [List.append_nil]
  | succ f => rw [scanG]; show Except.ok (out ++ []) = _; rw [List.append_nil]
 rw [hRo] at hT
 simp only at hT
 have ht := toT_tu3 r0 (iv 0) (iv 0)
 refine mc_runs ctx0 ?_
 have ht' : toT ((0, scr s s.size ln) :: rowH eTok 44 1 out) (oneOf [rowP eTok 1 out, .t (iv 0), .t (iv 0)]) = some (.tu [treeS eTok out, iv 0, iv 0], lentS 1 out) := ht
 simp -implicitDefEqProofs [SSc, hT, -oneOf, ht']
def InZ (n p : Nat) : Prop := p ≤ n
def SRr (s : ByteArray) (big : Bool) (p : Nat) : AState := ⟨[(5, .t (iv (p : Int))), (1, .t (bv big)), (0, .t (sv s))], [], 0, 20⟩
theorem rrun_call (s : ByteArray) (big : Bool) (hs : s.size ≤ 65536) : CallT Tryz.prog (G q) 50 [sv s, bv big] (· = iv (runN big s.data.toList : Int)) := by
 have hlen : s.data.toList.length = s.size := rfl
 obtain ⟨n, hn⟩ : ∃ n, n = runN big s.data.toList := ⟨_, rfl⟩
 have hnl : n ≤ s.size := by rw [hn, ← hlen]; exact runN_le _ _
 rw [← hn]
 refine k_r01_run.call rfl ?_
 unfold M_r01_run
 refine mc_seq_runs ctxp ?_
 simp -implicitDefEqProofs
 refine mc_seq_runs ctxp ?_
 simp -implicitDefEqProofs
 refine mc_cut (α := Unit) (fun _ => SRr s big n) (fun _ => True) (fun _ => rfl) ?_ ?_
 ·refine mc_block ?_
  refine mc_while (SRr s big) (fun p => n - p) (InZ n) 0 (fun _ => rfl) (Nat.zero_le _) ?_ rfl ?_
  ·refine sub_forget rfl rfl ?_ ?_ <;> simp -implicitDefEqProofs [SRr]
  ·intro p hp
   have hp : p ≤ n := hp
   refine mc_runs ctxp ?_
   by_cases hlt : p < s.size
   ·obtain ⟨c, hc⟩ : ∃ c, s.data.toList[p]? = some c := ⟨_, List.getElem?_eq_getElem hlt⟩
    have ix := index_str s p c hc
    obtain ⟨p1, hp1⟩ : ∃ p1, p1 = p + 1 := ⟨_, rfl⟩
    have e1 : IntKind.i64.wrap ((p : Int) + 1) = (p1 : Int) := by rw [hp1]; exact wrap_nat (by omega) (by omega)
    have gq := g2_eq (τ := tChr) (σ := tBool) (f := fun c b => some (bv (isPart b c))) (a := cv c) (b := bv big) rfl rfl
    by_cases hpn : p < n
    ·have hd : isPart big c = true := tw_lt (by show p < runN big s.data.toList; omega) hc
     simp -implicitDefEqProofs [SRr, hlt, ix, tbp, gq, hd, e1]
     exact Abs.Next.mk p1 ⟨by show p1 ≤ n; omega, by omega⟩ (sub_forget rfl rfl (by simp -implicitDefEqProofs [SRr]) (by simp -implicitDefEqProofs [SRr]))
    ·have hpz : p = n := by omega
     have hd : isPart big c = false := tw_eq (by show s.data.toList[runN big s.data.toList]? = some c; rw [← hn, ← hpz]; exact hc)
     subst hpz
     simp -implicitDefEqProofs [SRr, hlt, ix, tbp, gq, hd]
     exact Abs.Next.mk () trivial (sub_forget rfl rfl (by simp -implicitDefEqProofs [SRr]) (by simp -implicitDefEqProofs [SRr]))
   ·have hpz : p = n := by omega
    subst hpz
    simp -implicitDefEqProofs [SRr, hlt]
    exact Abs.Next.mk () trivial (sub_forget rfl rfl (by simp -implicitDefEqProofs [SRr]) (by simp -implicitDefEqProofs [SRr]))
 rintro _ -
 refine mc_runs ctxp ?_
 simp -implicitDefEqProofs [SRr]
def SRf (s : ByteArray) (k p : Nat) : AState := ⟨[(4, .t (iv (p : Int))), (3, .t (iv (k : Int))), (0, .t (sv s))], [], 0, 25⟩
def figR (l : List UInt8) : Nat := if figN l = minN l then 0 else figN l
theorem rfig_call (s : ByteArray) (hs : s.size ≤ 65536) (h0 : 0 < s.size) : CallT Tryz.prog (G q) 51 [sv s] (· = iv (figR s.data.toList : Int)) := by
 have hlen : s.data.toList.length = s.size := rfl
 obtain ⟨l, hl⟩ : ∃ l, l = s.data.toList := ⟨_, rfl⟩
 rw [← hl] at hlen ⊢
 obtain ⟨c0, hc0⟩ : ∃ c, l[0]? = some c := ⟨_, List.getElem?_eq_getElem (by omega)⟩
 have ix0 := index_str s 0 c0 (by rw [← hl]; exact hc0)
 simp only [Int.natCast_zero] at ix0
 obtain ⟨n, hn⟩ : ∃ n, n = figN l := ⟨_, rfl⟩
 obtain ⟨k, hk⟩ : ∃ k, k = minN l := ⟨_, rfl⟩
 have hnl : n ≤ s.size := by rw [hn, ← hlen]; exact figN_le _
 have hkn : k ≤ n := by rw [hn, hk]; unfold figN; omega
 have hr : figR l = if n = k then 0 else n := by rw [figR, hn, hk]
 have e45 : ((c0.toNat : Int) == 45) = (c0 == 45) := by
  by_cases h : c0 = 45
  ·subst h; rfl
  ·have : ¬ c0.toNat = 45 := fun e => h (UInt8.toNat_inj.1 e)
   rw [beq_eq_false_iff_ne.2 h, beq_eq_false_iff_ne]; omega
 have hk' : k = if c0 == 45 then 1 else 0 := by
  rw [hk]; unfold minN
  cases l with
  | nil => cases hc0
  | cons x t =>
   have : x = c0 := by simpa using hc0
   rw [this]
   cases h : (c0 == 45) <;> simp [h]
 refine k_r01_figures.call rfl ?_
 unfold M_r01_figures
 refine mc_seq_runs ctxc ?_
 simp -implicitDefEqProofs
 refine mc_seq_runs ctxc ?_
 simp -implicitDefEqProofs
 refine mc_cut (α := Unit) (fun _ => (⟨[(3, .t (iv (k : Int))), (0, .t (sv s))], [], 0, 25⟩ : AState)) (fun _ => True) (fun _ => rfl) ?_ ?_
 ·refine mc_runs ctxc ?_
  cases h45 : (c0 == 45) with
  | true =>
   rw [h45] at hk'
   have hk1 : k = 1 := hk'
   subst hk1
   simp -implicitDefEqProofs [ix0, e45, h45]
   exact Abs.Next.mk () trivial (sub_forget rfl rfl (by simp -implicitDefEqProofs) (by simp -implicitDefEqProofs))
  | false =>
   rw [h45] at hk'
   have hk1 : k = 0 := hk'
   subst hk1
   simp -implicitDefEqProofs [ix0, e45, h45]
   exact Abs.Next.mk () trivial (sub_forget rfl rfl (by simp -implicitDefEqProofs) (by simp -implicitDefEqProofs))
 rintro _ -
 refine mc_seq_runs ctxc ?_
 simp -implicitDefEqProofs
 refine mc_cut (α := Unit) (fun _ => SRf s k n) (fun _ => True) (fun _ => rfl) ?_ ?_
 ·refine mc_block ?_
  refine mc_while (SRf s k) (fun p => n - p) (InR k (n - k)) k (fun _ => rfl) ⟨Nat.le_refl _, by omega⟩ ?_ rfl ?_
  ·refine sub_forget rfl rfl ?_ ?_ <;> simp -implicitDefEqProofs [SRf]
  ·rintro p ⟨hp1, hp2⟩
   refine mc_runs ctxc ?_
   by_cases hlt : p < s.size
   ·obtain ⟨c, hc⟩ : ∃ c, l[p]? = some c := ⟨_, List.getElem?_eq_getElem (by omega)⟩
    have ix := index_str s p c (by rw [← hl]; exact hc)
    obtain ⟨p1, hp1'⟩ : ∃ p1, p1 = p + 1 := ⟨_, rfl⟩
    have e1 : IntKind.i64.wrap ((p : Int) + 1) = (p1 : Int) := by rw [hp1']; exact wrap_nat (by omega) (by omega)
    have hc' : (l.drop k)[p - k]? = some c := by rw [List.getElem?_drop, show k + (p - k) = p by omega]; exact hc
    have hnk : n - k = ((l.drop k).takeWhile isDig).length := by rw [hn, hk]; unfold figN; omega
    have qd := gChr_eq isDig c
    by_cases hpn : p < n
    ·have hd : isDig c = true := tw_lt (by rw [← hnk]; omega) hc'
     rw [hd] at qd
     simp -implicitDefEqProofs [SRf, hlt, ix, tbc, qd, e1]
     exact Abs.Next.mk p1 ⟨⟨by omega, by omega⟩, by omega⟩ (sub_forget rfl rfl (by simp -implicitDefEqProofs [SRf]) (by simp -implicitDefEqProofs [SRf]))
    ·have hpz : p = n := by omega
     have hd : isDig c = false := tw_eq (by rw [← hnk, show n - k = p - k by omega]; exact hc')
     rw [hd] at qd
     subst hpz
     simp -implicitDefEqProofs [SRf, hlt, ix, tbc, qd]
     exact Abs.Next.mk () trivial (sub_forget rfl rfl (by simp -implicitDefEqProofs [SRf]) (by simp -implicitDefEqProofs [SRf]))
   ·have hpz : p = n := by omega
    subst hpz
    simp -implicitDefEqProofs [SRf, hlt]
    exact Abs.Next.mk () trivial (sub_forget rfl rfl (by simp -implicitDefEqProofs [SRf]) (by simp -implicitDefEqProofs [SRf]))
 rintro _ -
 refine mc_runs ctxc ?_
 by_cases hnk : n = k
 ·have hb : ((n : Int) == (k : Int)) = true := by rw [hnk]; simp
  rw [if_pos hnk] at hr
  simp -implicitDefEqProofs [SRf, hb, hr]
 ·have hb : ((n : Int) == (k : Int)) = false := by rw [beq_eq_false_iff_ne]; omega
  rw [if_neg hnk] at hr
  simp -implicitDefEqProofs [SRf, hb, hr]
end Go.Proofs.YtjkkgbdoeaihmaaGreatDoor
