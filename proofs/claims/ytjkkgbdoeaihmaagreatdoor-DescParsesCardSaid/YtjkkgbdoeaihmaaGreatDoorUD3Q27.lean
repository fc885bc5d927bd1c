/-
 Auxiliary facts. No statement of the program stands here.
-/
import Derived.Test.YtjkkgbdoeaihmaaGreatDoorUD3Q26
import Derived.WalkKit
import Derived.Defers
import Derived.Recover
import Derived.Deep.RegionHeld3
import Derived.Test.YtjkkgbdoeaihmaaGreatDoorUD3Q24
namespace Go.Proofs.YtjkkgbdoeaihmaaGreatDoor
set_option linter.unusedSimpArgs false
set_option linter.unusedVariables false
open Go Go.RowKit
def recW (w : World) (g0 g1 g2 : Nat) (er : Int) : World :=
 (((((w.setCell ⟨g0, 0, none⟩ (.int .i64 0)).setCell ⟨g0, 1, none⟩ (.string ⟨#[]⟩)).setCell ⟨g0, 2, none⟩ (.slice none 0 0)).setCell ⟨g0, 3, none⟩ (.slice none 0 0)).setCell ⟨g1, 0, none⟩ (.int .i64 0)).setCell ⟨g2, 0, none⟩ (.int .i64 er)
theorem D6i {er : Int} {g0 g1 g2 : Nat} {w : World} {x0 x1 x2 x3 y0 z0 : Value} (h0 : w.heap[g0]? = some (.cells #[x0, x1, x2, x3] 25 (0, 0))) (h1 : w.heap[g1]? = some (.cells #[y0] 3 (0, 0))) (h2 : w.heap[g2]? = some (.cells #[z0] 28 (0, 0)))
  (d1 : g0 ≠ g1) (d2 : g0 ≠ g2) (d3 : g1 ≠ g2) :
  CallsD Tryz.prog 33 #[.pointer (some ⟨g0, 0, none⟩), .pointer (some ⟨g1, 0, none⟩), .pointer (some ⟨g2, 0, none⟩)] (.panicking (errC er)) w fun e u' w' =>
   e = .returned (.tuple #[]) /\ u' = .panicking [{ v := .iface 28 (.int .i64 er), recovered := true }] /\ w' = recW w g0 g1 g2 er := by
 have c0 : w.cell? ⟨g0, 0, none⟩ = some x0 := by simp [World.cell?, h0]
 have c1 : w.cell? ⟨g0, 1, none⟩ = some x1 := by simp [World.cell?, h0]
 have c2 : w.cell? ⟨g0, 2, none⟩ = some x2 := by simp [World.cell?, h0]
 have c3 : w.cell? ⟨g0, 3, none⟩ = some x3 := by simp [World.cell?, h0]
 have c4 : w.cell? ⟨g1, 0, none⟩ = some y0 := by simp [World.cell?, h1]
 have c5 : w.cell? ⟨g2, 0, none⟩ = some z0 := by simp [World.cell?, h2]
 have f0 : ∀ o, w.frozen? ⟨g0, o, none⟩ = false := fun o => by simp [World.frozen?, h0]
 have f1 : ∀ o, w.frozen? ⟨g1, o, none⟩ = false := fun o => by simp [World.frozen?, h1]
 have f2 : ∀ o, w.frozen? ⟨g2, o, none⟩ = false := fun o => by simp [World.frozen?, h2]
 have e1 : g1 ≠ g0 := Ne.symm d1
 have e2 : g2 ≠ g0 := Ne.symm d2
 have e3 : g2 ≠ g1 := Ne.symm d3
 clear h0 h1 h2
 refine callsD_of_wpS Tryz.func33 rfl fun c₀ cs hu => ?_
 simp only [Tryz.ntmps33, List.size_toArray, List.length_cons, List.length_nil, Nat.reduceAdd, Nat.reduceSub, Array.replicate_succ, Array.replicate_zero, List.push_toArray, List.append_toArray, List.nil_append, List.cons_append]
 have hta : ∀ w : World, (Instr.typeAssert (.iface 28 (.int .i64 er)) 20 28 true).run Tryz.prog w = .ok (.tuple #[.int .i64 er, .bool true]) w := fun w => by kernel_rfl
 apply wpS_seq
 apply wpS_region
 simp [wpOpsS, go_sem, recoverD, hu, Tryz.ntmps33, Exit.thenS]
 apply wpS_seq
 apply wpS_region
 simp [wpOpsS, go_sem, Exit.thenS]
 refine wpS_cond (t := true) (by simp [Act.eval, Array.replicate]) ?_
 simp only [if_true]
 refine wpS_of_wp ?_
 clear hu
 go_wp2
 cases c₀
 simp_all [bodyPostS, results, Tryz.results33, recW]
theorem D2j {g0 g1 g2 : Addr} {w : World} :
  CallsD Tryz.prog 33 #[.pointer (some g0), .pointer (some g1), .pointer (some g2)] .returning w fun e u' w' => e = .returned (.tuple #[]) /\ u' = .returning /\ w' = w := by
 refine callsD_of_wpS Tryz.func33 rfl fun c₀ cs hu => ?_
 simp only [Tryz.ntmps33, List.size_toArray, List.length_cons, List.length_nil, Nat.reduceAdd, Nat.reduceSub, Array.replicate_succ, Array.replicate_zero, List.push_toArray, List.append_toArray, List.nil_append, List.cons_append]
 apply wpS_seq
 apply wpS_region
 simp [wpOpsS, go_sem, recoverD, hu, Exit.thenS]
 apply wpS_seq
 apply wpS_region
 simp [wpOpsS, go_sem, Exit.thenS]
 refine wpS_cond (t := false) (by simp [Act.eval]) ?_
 simp only [Bool.false_eq_true, if_false]
 refine wpS_of_wp (wp_skip ?_)
 cases c₀
 simp_all [bodyPostS, results, Tryz.results33]
abbrev preW (w : World) (x : Value) (i : Int) : World := (((w.alloc (.cells #[.int .i64 0, .string ⟨#[]⟩, .slice none 0 0, .slice none 0 0] 25)).alloc (.cells #[.int .i64 0] 3)).alloc (.cells #[.int .i64 0] 28)).alloc (.cells #[x, .int .i64 i] 58)
theorem A6p {w : World} {g o : Nat} {v : Value} {arr : Array Value} {ty : TypeId} {fz : Nat × Nat} (h : w.heap[g]? = some (.cells arr ty fz)) : (w.setCell ⟨g, o, none⟩ v).heap[g]? = some (.cells (arr.setIfInBounds o v) ty fz) := by
 simp [World.setCell, Array.getElem?_modify, h]
theorem A2v {w : World} {g o k : Nat} {v : Value} (h : g ≠ k) : (w.setCell ⟨g, o, none⟩ v).heap[k]? = w.heap[k]? := by
 simp [World.setCell, Array.getElem?_modify, h]
theorem C4y {w : World} {g o : Nat} {v : Value} : (w.setCell ⟨g, o, none⟩ v).heap.size = w.heap.size := by simp [World.setCell]
section
variable {w : World} {g0 g1 g2 : Nat} {er : Int} {x0 x1 x2 x3 y0 z0 : Value} (h0 : w.heap[g0]? = some (.cells #[x0, x1, x2, x3] 25 (0, 0))) (h1 : w.heap[g1]? = some (.cells #[y0] 3 (0, 0))) (h2 : w.heap[g2]? = some (.cells #[z0] 28 (0, 0)))
  (d1 : g0 ≠ g1) (d2 : g0 ≠ g2) (d3 : g1 ≠ g2)
include h0 d1 d2 in
theorem E5u : (recW w g0 g1 g2 er).heap[g0]? = some (.cells #[.int .i64 0, .string ⟨#[]⟩, .slice none 0 0, .slice none 0 0] 25 (0, 0)) := by
 unfold recW
 rw [A2v (Ne.symm d2), A2v (Ne.symm d1), A6p (A6p (A6p (A6p h0)))]
 rfl
include h1 d1 d3 in
theorem E5v : (recW w g0 g1 g2 er).heap[g1]? = some (.cells #[.int .i64 0] 3 (0, 0)) := by
 unfold recW
 rw [A2v (Ne.symm d3), A6p (by rw [A2v d1, A2v d1, A2v d1, A2v d1]; exact h1)]
 rfl
include h2 d2 d3 in
theorem E5w : (recW w g0 g1 g2 er).heap[g2]? = some (.cells #[.int .i64 er] 28 (0, 0)) := by
 unfold recW
 rw [A6p (by rw [A2v d3, A2v d2, A2v d2, A2v d2, A2v d2]; exact h2)]
 rfl
end
theorem E0p {x : Value} {i er : Int} {w : World} {J : World -> Prop} (A : Option Addr) (n c : Nat) (hx : x = .slice A n c)
  (hJ : ∀ w', J w' -> w'.heap[w.heap.size]? = some (.cells #[.int .i64 0, .string ⟨#[]⟩, .slice none 0 0, .slice none 0 0] 25 (0, 0)) /\ w'.heap[w.heap.size + 1]? = some (.cells #[.int .i64 0] 3 (0, 0)) /\ w'.heap[w.heap.size + 2]? = some (.cells #[.int .i64 0] 28 (0, 0)))
  (hd : Calls Tryz.prog 34 #[.pointer (some ⟨w.heap.size + 3, 0, none⟩), .int .i64 1] (preW w x i) fun e w' => e = .panicked (errC er) /\ J w') :
  Calls Tryz.prog 17 #[x, .int .i64 i] w fun e w' => ∃ w1, J w1 /\ e = .returned (.tuple #[.agg #[.int .i64 0, .string ⟨#[]⟩, .slice none 0 0, .slice none 0 0], .int .i64 0, .int .i64 er]) /\ w' = recW w1 w.heap.size (w.heap.size + 1) (w.heap.size + 2) er := by
 have hmf : ∀ (fn : Fn) (first cap : Array Value) (w : World), (Instr.makeFunc fn first cap).run Tryz.prog w = .ok (.func fn first cap) w := fun _ _ _ _ => rfl
 subst hx
 go_enter_defers Tryz.func17, Tryz.ntmps17
 go_wp2_with (go_at_call 34; refine hd.mono ?_)
 rintro e w1 ⟨rfl, hj⟩
 obtain ⟨h0, h1, h2⟩ := hJ w1 hj
 refine leaves_cons (f := 33) (args := #[.pointer (some ⟨w.heap.size, 0, none⟩), .pointer (some ⟨w.heap.size + 1, 0, none⟩), .pointer (some ⟨w.heap.size + 1 + 1, 0, none⟩)]) (by simp) (by simp [go_sem]) ?_
 refine (D6i h0 h1 h2 (by omega) (by omega) (by omega)).mono ?_
 rintro e u' w' ⟨rfl, rfl, rfl⟩
 simp only [Leaves, settle, List.dropWhile_nil]
 refine ⟨_, ?_, w1, hj, rfl, rfl⟩
 have c0 := E5u (g1 := w.heap.size + 1) (g2 := w.heap.size + 1 + 1) (er := er) h0 (by omega) (by omega)
 have c1 := E5v (g0 := w.heap.size) (g2 := w.heap.size + 1 + 1) (er := er) h1 (by omega) (by omega)
 have c2 := E5w (g0 := w.heap.size) (g1 := w.heap.size + 1) (er := er) h2 (by omega) (by omega)
 generalize recW w1 w.heap.size (w.heap.size + 1) (w.heap.size + 1 + 1) er = W at c0 c1 c2
 have e0 : W.cell? ⟨w.heap.size, 0, none⟩ = some (.int .i64 0) := by simp [World.cell?, c0]
 have e1 : W.cell? ⟨w.heap.size, 1, none⟩ = some (.string ⟨#[]⟩) := by simp [World.cell?, c0]
 have e2 : W.cell? ⟨w.heap.size, 2, none⟩ = some (.slice none 0 0) := by simp [World.cell?, c0]
 have e3 : W.cell? ⟨w.heap.size, 3, none⟩ = some (.slice none 0 0) := by simp [World.cell?, c0]
 have e4 : W.cell? ⟨w.heap.size + 1, 0, none⟩ = some (.int .i64 0) := by simp [World.cell?, c1]
 have e5 : W.cell? ⟨w.heap.size + 1 + 1, 0, none⟩ = some (.int .i64 er) := by simp [World.cell?, c2]
 simp [results, Tryz.results17, go_sem, e0, e1, e2, e3, e4, e5]
 trace_state
structure Aft (s : Nat) (w w' : World) : Prop where
 out : Abs.A3s w w'
 size : w'.heap.size = w.heap.size
 same : ∀ k, k ≠ s -> k ≠ s + 1 -> k ≠ s + 2 -> w'.heap[k]? = w.heap[k]?
theorem Aft.refl (s : Nat) (w : World) : Aft s w w := ⟨Abs.A3s.refl w, rfl, fun _ _ _ _ => rfl⟩
theorem Aft.set {s g o : Nat} {v : Value} {w w' : World} (h : Aft s w w') (hg : g = s \/ g = s + 1 \/ g = s + 2) : Aft s w (w'.setCell ⟨g, o, none⟩ v) :=
 ⟨h.out, C4y.trans h.size, fun k h0 h1 h2 => (A2v (by omega)).trans (h.same k h0 h1 h2)⟩
theorem Aft.drew {s : Nat} {w w' : World} (h : Aft s w w') : Aft s w w'.drew := ⟨h.out, h.size, h.same⟩
theorem E0q {x : Value} {i p : Int} {w : World} {J : Int -> ByteArray -> Option Addr -> Nat -> Nat -> Option Addr -> Nat -> Nat -> World -> Prop} (A : Option Addr) (n c : Nat) (hx : x = .slice A n c)
  (hJ : ∀ a b X k1 l1 Y k2 l2 w', J a b X k1 l1 Y k2 l2 w' -> w'.heap[w.heap.size]? = some (.cells #[.int .i64 0, .string ⟨#[]⟩, .slice none 0 0, .slice none 0 0] 25 (0, 0)) /\ w'.heap[w.heap.size + 1]? = some (.cells #[.int .i64 0] 3 (0, 0)) /\ w'.heap[w.heap.size + 2]? = some (.cells #[.int .i64 0] 28 (0, 0)) /\
   w'.cell? ⟨w.heap.size + 3, 1, none⟩ = some (.int .i64 p))
  (hd : Calls Tryz.prog 34 #[.pointer (some ⟨w.heap.size + 3, 0, none⟩), .int .i64 1] (preW w x i) fun e w' => ∃ a b X k1 l1 Y k2 l2, e = .returned (.agg #[.int .i64 a, .string b, .slice X k1 l1, .slice Y k2 l2]) /\ J a b X k1 l1 Y k2 l2 w') :
  Calls Tryz.prog 17 #[x, .int .i64 i] w fun e w' => ∃ a b X k1 l1 Y k2 l2 w1, J a b X k1 l1 Y k2 l2 w1 /\ e = .returned (.tuple #[.agg #[.int .i64 a, .string b, .slice X k1 l1, .slice Y k2 l2], .int .i64 p, .int .i64 0]) /\ Aft w.heap.size w1 w' := by
 have hmf : ∀ (fn : Fn) (first cap : Array Value) (w : World), (Instr.makeFunc fn first cap).run Tryz.prog w = .ok (.func fn first cap) w := fun _ _ _ _ => rfl
 subst hx
 go_enter_defers Tryz.func17, Tryz.ntmps17
 go_wp2_with (go_at_call 34; refine hd.mono ?_)
 rintro e w1 ⟨a, b, X, k1, l1, Y, k2, l2, rfl, hj⟩
 obtain ⟨h0, h1, h2, h3⟩ := hJ a b X k1 l1 Y k2 l2 w1 hj
 have e0 : w1.cell? ⟨w.heap.size, 0, none⟩ = some (.int .i64 0) := by simp [World.cell?, h0]
 have e1 : w1.cell? ⟨w.heap.size, 1, none⟩ = some (.string ⟨#[]⟩) := by simp [World.cell?, h0]
 have e2 : w1.cell? ⟨w.heap.size, 2, none⟩ = some (.slice none 0 0) := by simp [World.cell?, h0]
 have e3 : w1.cell? ⟨w.heap.size, 3, none⟩ = some (.slice none 0 0) := by simp [World.cell?, h0]
 have e4 : w1.cell? ⟨w.heap.size + 1, 0, none⟩ = some (.int .i64 0) := by simp [World.cell?, h1]
 have e5 : w1.cell? ⟨w.heap.size + 1 + 1, 0, none⟩ = some (.int .i64 0) := by simp [World.cell?, h2]
 have f0 : ∀ o, w1.frozen? ⟨w.heap.size, o, none⟩ = false := fun o => by simp [World.frozen?, h0]
 have f1 : ∀ o, w1.frozen? ⟨w.heap.size + 1, o, none⟩ = false := fun o => by simp [World.frozen?, h1]
 have f2 : ∀ o, w1.frozen? ⟨w.heap.size + 1 + 1, o, none⟩ = false := fun o => by simp [World.frozen?, h2]
 have n1 : w.heap.size + 1 ≠ w.heap.size := by omega
 have n2 : w.heap.size + 1 + 1 ≠ w.heap.size := by omega
 have n3 : w.heap.size + 1 + 1 + 1 ≠ w.heap.size := by omega
 have h3 : w1.cell? ⟨w.heap.size + 1 + 1 + 1, 1, none⟩ = some (.int .i64 p) := h3
 clear h0 h1 h2
 go_wp2
 obtain ⟨W, hW⟩ : ∃ W, W = ((((w1.setCell ⟨w.heap.size, 0, none⟩ (.int .i64 a)).setCell ⟨w.heap.size, 1, none⟩ (.string b)).setCell ⟨w.heap.size, 2, none⟩ (.slice X k1 l1)).setCell ⟨w.heap.size, 3, none⟩ (.slice Y k2 l2)) := ⟨_, rfl⟩
 rw [<- hW]
 have g0 : W.cell? ⟨w.heap.size, 0, none⟩ = some (.int .i64 a) := by rw [hW]; simp [go_sem, e0, e1, e2, e3]
 have g1 : W.cell? ⟨w.heap.size, 1, none⟩ = some (.string b) := by rw [hW]; simp [go_sem, e0, e1, e2, e3]
 have g2 : W.cell? ⟨w.heap.size, 2, none⟩ = some (.slice X k1 l1) := by rw [hW]; simp [go_sem, e0, e1, e2, e3]
 have g3 : W.cell? ⟨w.heap.size, 3, none⟩ = some (.slice Y k2 l2) := by rw [hW]; simp [go_sem, e0, e1, e2, e3]
 have g4 : W.cell? ⟨w.heap.size + 1, 0, none⟩ = some (.int .i64 0) := by rw [hW]; simp [go_sem, e4, n1]
 have g5 : W.cell? ⟨w.heap.size + 1 + 1, 0, none⟩ = some (.int .i64 0) := by rw [hW]; simp [go_sem, e5, n2]
 have g6 : W.cell? ⟨w.heap.size + 1 + 1 + 1, 1, none⟩ = some (.int .i64 p) := by rw [hW]; simp [go_sem, h3, n3]
 have z0 : ∀ o, W.frozen? ⟨w.heap.size, o, none⟩ = false := fun o => by rw [hW]; simp [go_sem, f0]
 have z1 : ∀ o, W.frozen? ⟨w.heap.size + 1, o, none⟩ = false := fun o => by rw [hW]; simp [go_sem, f1]
 have z2 : ∀ o, W.frozen? ⟨w.heap.size + 1 + 1, o, none⟩ = false := fun o => by rw [hW]; simp [go_sem, f2]
 have hA : Aft w.heap.size w1 W := by
  rw [hW]
  exact ((((Aft.refl _ _).set (.inl rfl)).set (.inl rfl)).set (.inl rfl)).set (.inl rfl)
 clear e0 e1 e2 e3 e4 e5 h3 f0 f1 f2 hmf hd hW
 go_region_held3 (fun w' => w'.cell? ⟨w.heap.size, 0, none⟩ = some (.int .i64 a) /\ w'.cell? ⟨w.heap.size, 1, none⟩ = some (.string b) /\ w'.cell? ⟨w.heap.size, 2, none⟩ = some (.slice X k1 l1) /\ w'.cell? ⟨w.heap.size, 3, none⟩ = some (.slice Y k2 l2) /\ w'.cell? ⟨w.heap.size + 1 + 1 + 1, 1, none⟩ = some (.int .i64 p)) (((try dsimp only); (repeat' apply And.intro) <;> simp [go_sem, *])) (fail)
 go_wp2
 refine leaves_cons (f := 33) (args := #[.pointer (some ⟨w.heap.size, 0, none⟩), .pointer (some ⟨w.heap.size + 1, 0, none⟩), .pointer (some ⟨w.heap.size + 1 + 1, 0, none⟩)]) (by simp) (by simp [go_sem]) ?_
 refine D2j.mono ?_
 rintro e u' w' ⟨rfl, rfl, rfl⟩
 simp only [Leaves, settle]
 refine ⟨_, ?_, a, b, X, k1, l1, Y, k2, l2, w1, hj, rfl, ?_⟩
 ·simp [results, Tryz.results17, go_sem, g0, g1, g2, g3, g4, g5, n1, n2]
 ·exact ((((((hA.set (.inl rfl)).set (.inl rfl)).set (.inl rfl)).set (.inl rfl)).set (.inr (.inl rfl))).set (.inr (.inr rfl))).drew
open Go Go.Abs
variable {q : Gl} {t : T} {l : List Tok} {i : Nat}
def zDs : Ds := .mk 0 ⟨#[]⟩ [] []
def A3m : Res Ds -> T
 | .ok (d, p) => .tu [dT d, iv (p : Int), iv 0]
 | .error e => .tu [dT zDs, iv 0, iv e]
section
variable {w : World} {x : Value} {i : Int}
theorem D6j : (preW w x i).heap.size = w.heap.size + 4 := by simp only [preW, World.alloc, Array.size_push]
theorem C9q {k : Nat} (h : k < w.heap.size) : (preW w x i).heap[k]? = w.heap[k]? := by
 simp only [preW, World.alloc, Array.getElem?_push, Array.size_push]
 rw [if_neg (by omega), if_neg (by omega), if_neg (by omega), if_neg (by omega)]
theorem E5x : (preW w x i).heap[w.heap.size]? = some (.cells #[.int .i64 0, .string ⟨#[]⟩, .slice none 0 0, .slice none 0 0] 25 (0, 0)) := by
 simp only [preW, World.alloc, Array.getElem?_push, Array.size_push]
 rw [if_neg (by omega), if_neg (by omega), if_neg (by omega), if_pos trivial]
theorem E5y : (preW w x i).heap[w.heap.size + 1]? = some (.cells #[.int .i64 0] 3 (0, 0)) := by
 simp only [preW, World.alloc, Array.getElem?_push, Array.size_push]
 rw [if_neg (by omega), if_neg (by omega), if_pos trivial]
theorem E5z : (preW w x i).heap[w.heap.size + 2]? = some (.cells #[.int .i64 0] 28 (0, 0)) := by
 simp only [preW, World.alloc, Array.getElem?_push, Array.size_push]
 rw [if_neg (by omega), if_pos trivial]
theorem E6a : (preW w x i).heap[w.heap.size + 3]? = some (.cells #[x, .int .i64 i] 58 (0, 0)) := by
 simp only [preW, World.alloc, Array.getElem?_push, Array.size_push]
 rw [if_pos trivial]
theorem E0r : A3s w (preW w x i) := ⟨rfl, rfl, rfl⟩
end
theorem B7n {α : Type} {e : Enc α} {l : List α} {I : Nat -> Prop} {w : World} {t : T} {u : Value} (h : IsS e t l) (hr : RepT I w t u) : ∃ A n c, u = .slice A n c := by
 rcases h with ⟨rfl, rfl⟩ | rfl
 ·simp only [RepT] at hr
  exact ⟨_, _, _, hr⟩
 ·simp only [slT, RepT] at hr
  obtain ⟨a, c, e, _⟩ := hr
  exact ⟨_, _, _, e⟩
theorem E0s {w : World} {s : Nat} {er : Int} : Aft s w (recW w s (s + 1) (s + 2) er) :=
 (((((Aft.refl s w).set (.inl rfl)).set (.inl rfl)).set (.inl rfl)).set (.inl rfl) |>.set (.inr (.inl rfl))).set (.inr (.inr rfl))
theorem C9r {I I' : Nat -> Prop} {w W0 w1 w' : World} (s0 : W0.heap.size = w.heap.size + 4) (old : ∀ k, k < w.heap.size -> W0.heap[k]? = w.heap[k]?) (out : A3s w W0) (hL : Left I W0 (w.heap.size + 3) I' w1) (hA : Aft w.heap.size w1 w') :
  A3s w w' /\ w.heap.size <= w'.heap.size /\ (∀ g, g < w.heap.size -> w'.heap[g]? = w.heap[g]?) /\ (∀ g, I g -> I' g) /\ (∀ g, I' g -> I g \/ w.heap.size <= g) /\ (∀ g, I' g -> g < w'.heap.size) := by
 have h1 := hL.size
 rw [s0] at h1
 refine ⟨out.trans (hL.out.trans hA.out), by rw [hA.size]; omega, fun g hg => ?_, hL.more, fun g hg => ?_, fun g hg => by rw [hA.size]; exact hL.lt g hg⟩
 ·exact (hA.same g (by omega) (by omega) (by omega)).trans ((hL.same g (by omega) (by omega)).trans (old g hg))
 ·rcases hL.new g hg with h2 | h2 | h2
  ·exact .inl h2
  ·exact .inr (by omega)
  ·exact .inr (by omega)
theorem B0h {I I' : Nat -> Prop} {w W0 w1 : World} (s0 : W0.heap.size = w.heap.size + 4) (hL : Left I W0 (w.heap.size + 3) I' w1) {k : Nat} (hk : k < 3) : w1.heap[w.heap.size + k]? = W0.heap[w.heap.size + k]? := hL.same _ (by omega) (by omega)
theorem E0t {I : Nat -> Prop} {w : World} : RepT I w (dT zDs) (.agg #[.int .i64 0, .string ⟨#[]⟩, .slice none 0 0, .slice none 0 0]) := by
 rw [zDs, dT, A4p]
 simp only [RepT, RepL, A2h]
 exact ⟨_, rfl, by simp [Value.oneCell'], _, _, rfl, rfl, _, _, rfl, rfl, _, _, rfl, rfl, _, _, rfl, rfl, rfl⟩
theorem C4z {I : Nat -> Prop} {w : World} {x : T} {v : Value} {a b : Int} (h : RepT I w x v) : RepT I w (.tu [x, iv a, iv b]) (.tuple #[v, .int .i64 a, .int .i64 b]) := by
 simp only [RepT, RepL]
 exact ⟨_, rfl, _, _, rfl, h, _, _, rfl, rfl, _, _, rfl, rfl, rfl⟩
theorem E6b {I : Nat -> Prop} {w : World} {d : Ds} {v : Value} (hv : RepT I w (dT d) v) : ∃ a b X k1 l1 Y k2 l2, v = .agg #[.int .i64 a, .string b, .slice X k1 l1, .slice Y k2 l2] := by
 cases d with
 | mk op name path kids =>
  rw [dT, A4p] at hv
  simp only [RepT, RepL] at hv
  obtain ⟨us, rfl, _, a1, r1, e1, rfl, a2, r2, e2, rfl, a3, r3, e3, h3, a4, r4, e4, h4, e5⟩ := hv
  obtain ⟨X, k1, l1, rfl⟩ := B7n (IsS.tree eStr path) h3
  obtain ⟨Y, k2, l2, rfl⟩ := B7n (IsS.tree eD kids) h4
  subst e5; subst e4; subst e3; subst e2
  exact ⟨op, name, X, k1, l1, Y, k2, l2, by congr 1; rw [<- Array.toList_inj]; exact e1⟩
theorem D6k : IsFn Tryz.prog 17 := ⟨_, _, Tryz.func17, rfl, rfl⟩
theorem E4c (ht : IsS eTok t l) (hlim : l.length <= 1000000) (hi : i <= l.length) : A1k Tryz.prog (G q) 17 [t, iv (i : Int)] (· = A3m (desS (l.map kt) 64 i)) := by
 refine ⟨D6k, fun I w us hlt hglob hrep => ?_⟩
 obtain ⟨x, hx, rfl, A, n, c, rfl⟩ : ∃ x, RepT I w t x /\ us = #[x, .int .i64 (i : Int)] /\ ∃ A n c, x = .slice A n c := by
  simp only [RepL, RepT] at hrep
  obtain ⟨x, xs, e1, hx, y, ys, e2, e3, e4⟩ := hrep
  subst e3; subst e4; subst e2
  refine ⟨x, hx, ?_, B7n ht hx⟩
  rw [<- Array.toList_inj]
  exact e1
 have hkp : B3g I I w (preW w (.slice A n c) i) := fun b hb => ⟨hb, C9q (hlt b hb)⟩
 have s0 := D6j (w := w) (x := .slice A n c) (i := (i : Int))
 have old : ∀ k, k < w.heap.size -> (preW w (.slice A n c) i).heap[k]? = w.heap[k]? := fun k hk => C9q hk
 have w0 := E5x (w := w) (x := .slice A n c) (i := (i : Int))
 have w1 := E5y (w := w) (x := .slice A n c) (i := (i : Int))
 have w2 := E5z (w := w) (x := .slice A n c) (i := (i : Int))
 have hout := E0r (w := w) (x := .slice A n c) (i := (i : Int))
 have hlt3 : ¬ I (w.heap.size + 3) := fun h => by have := hlt _ h; omega
 have hlt4 : ∀ b, I b -> b < (preW w (.slice A n c) i).heap.size := fun b hb => by have := hlt b hb; rw [s0]; exact Nat.lt_of_lt_of_le this (Nat.le_add_right _ _)
 have hD := D6h (q := q) (w := preW w (.slice A n c) i) (g := w.heap.size + 3) (I := I) ht hlim hlt4
  (fun g cs h => ⟨(hglob g cs h).1, RepG.keep hkp (hglob g cs h).1 (hglob g cs h).2⟩) (RepT.keep hkp t hx) rfl hi E6a hlt3
 cases hd : desS (l.map kt) 64 i with
 | error er =>
  rw [hd] at hD
  have hR := E0p (er := er) (J := fun w' => ∃ I', Left I (preW w (.slice A n c) i) (w.heap.size + 3) I' w') A n c rfl (fun w' ⟨I', h⟩ =>
   ⟨(B0h (k := 0) s0 h (by omega)).trans w0, (B0h (k := 1) s0 h (by omega)).trans w1, (B0h (k := 2) s0 h (by omega)).trans w2⟩) (hD.mono fun e w' ⟨I', h1, h2⟩ => ⟨h1, I', h2⟩)
  refine hR.mono ?_
  rintro e w' ⟨v1, ⟨I', hL⟩, rfl, rfl⟩
  exact ⟨_, _, I', rfl, rfl, C4z E0t, C9r s0 old hout hL E0s⟩
 | ok y =>
  obtain ⟨d, p⟩ := y
  rw [hd] at hD
  have hR := E0q (p := (p : Int)) (J := fun a b X k1 l1 Y k2 l2 w' => ∃ I', RepT I' w' (dT d) (.agg #[.int .i64 a, .string b, .slice X k1 l1, .slice Y k2 l2]) /\ w'.cell? ⟨w.heap.size + 3, 1, none⟩ = some (.int .i64 (p : Int)) /\ Left I (preW w (.slice A n c) i) (w.heap.size + 3) I' w' /\ ¬ I' (w.heap.size + 3)) A n c rfl (fun a b X k1 l1 Y k2 l2 w' ⟨I', _, hc, h, _⟩ =>
   ⟨(B0h (k := 0) s0 h (by omega)).trans w0, (B0h (k := 1) s0 h (by omega)).trans w1, (B0h (k := 2) s0 h (by omega)).trans w2, hc⟩) (hD.mono fun e w' ⟨I', h1, h2⟩ => by
   obtain ⟨v, arr, rfl, hv, ha, hp, hn⟩ := h1
   obtain ⟨a, b, X, k1, l1, Y, k2, l2, rfl⟩ := E6b hv
   exact ⟨a, b, X, k1, l1, Y, k2, l2, rfl, I', hv, by simp only [World.cell?, ha]; exact hp, h2, hn⟩)
  refine hR.mono ?_
  rintro e w' ⟨a, b, X, k1, l1, Y, k2, l2, v1, ⟨I', hv, _, hL, hn⟩, rfl, hA⟩
  have hI : ∀ b, I' b -> b ≠ w.heap.size /\ b ≠ w.heap.size + 1 /\ b ≠ w.heap.size + 2 := fun b hb => by
   rcases hL.new b hb with h2 | h2 | h2
   ·have := hlt b h2
    clear hR hD w0 w1 w2
    omega
   ·rw [s0] at h2
    clear hR hD w0 w1 w2
    omega
   ·rw [h2] at hb; exact absurd hb hn
  have hk2 : B3g I' I' v1 w' := fun b hb => ⟨hb, hA.same b (hI b hb).1 (hI b hb).2.1 (hI b hb).2.2⟩
  exact ⟨_, _, I', rfl, rfl, C4z (RepT.keep hk2 _ hv), C9r s0 old hout hL hA⟩
section
variable {l : List KT} {rec : Nat -> Res Ds}
def Errs {α : Type} (rec : Nat -> Res α) : Prop := ∀ p e, rec p = .error e -> e ≠ 0
theorem C1z {p : Nat} {k e : Int} (h : A2u l p k = .error e) : e ≠ 0 := by
 unfold A2u at h
 split at h
 ·injection h with h; omega
 ·split at h
  ·cases h
  ·injection h with h; omega
theorem C9s {p : Nat} {s : List UInt8} {e : Int} (h : A3v l p s = .error e) : e ≠ 0 := by
 unfold A3v at h
 split at h
 ·injection h with h; omega
 ·split at h
  ·cases h
  ·injection h with h; omega
theorem C9t : ∀ (f p : Nat) (path : List ByteArray) (e : Int), l.length - p < f -> B1g l f p path = .error e -> e ≠ 0
 | 0, p, path, e, hf, _ => by omega
 | f + 1, p, path, e, hf, h => by
  rw [B1g] at h
  split at h
  ·rename_i hs
   have hl := A1q hs
   split at h
   ·injection h with h; omega
   ·split at h
    ·rename_i h1; injection h with h; subst h; exact C1z h1
    ·rename_i s p1 h1
     have := A7p h1
     exact C9t f _ _ _ (by omega) h
  ·cases h
theorem C9u (hr : Errs rec) : Errs (A7x l rec) := fun p e h => by
 unfold A7x at h
 split at h
 ·rename_i h1; injection h with h; subst h; exact C1z h1
 ·rename_i s p1 h1
  split at h
  ·rename_i h2; injection h with h; subst h; exact C9t _ _ _ _ (by omega) h2
  ·rename_i path p2 h2
   split at h
   ·rename_i h3; injection h with h; subst h; exact hr _ _ h3
   ·cases h
theorem E1z (hr : Errs rec) (hf : Fwd l rec) : ∀ (f p : Nat) (parts : List Ds) (e : Int), l.length - p < f -> brS l rec f p parts = .error e -> e ≠ 0
 | 0, p, parts, e, hl, _ => by omega
 | f + 1, p, parts, e, hl, h => by
  rw [brS] at h
  split at h
  ·rename_i h1; injection h with h; subst h; exact C9u hr _ _ h1
  ·rename_i d p1 h1
   have h2 := C1s hf h1
   split at h
   ·rename_i hs
    have := A1q hs
    split at h
    ·injection h with h; omega
    ·exact E1z hr hf f _ _ _ (by omega) h
   ·split at h
    ·rename_i h3; injection h with h; subst h; exact C9s h3
    ·cases h
theorem D6l (hr : Errs rec) (hf : Fwd l rec) : ∀ (f p : Nat) (kids : List Ds) (e : Int), l.length - p < f -> itS l rec f p kids = .error e -> e ≠ 0
 | 0, p, kids, e, hl, _ => by omega
 | f + 1, p, kids, e, hl, h => by
  rw [itS] at h
  split at h
  ·rename_i hs
   have := A1q hs
   split at h
   ·injection h with h; omega
   ·split at h
    ·rename_i h1; injection h with h; subst h; exact hr _ _ h1
    ·rename_i d p1 h1
     have := hf _ _ _ h1
     exact D6l hr hf f _ _ _ (by omega) h
  ·cases h
theorem A9y {s : List UInt8} {op : Int} {kids : List Ds} {p : Nat} {e : Int} (h : A2x l s op kids p = .error e) : e ≠ 0 := by
 unfold A2x at h
 split at h
 ·rename_i h1; injection h with h; subst h; exact C9s h1
 ·cases h
theorem D6m (hr : Errs rec) (hf : Fwd l rec) : Errs (lstS l rec) := fun p e h => by
 unfold lstS at h
 split at h
 ·injection h with h; omega
 ·split at h
  ·exact A9y h
  ·split at h
   ·rename_i h1; injection h with h; subst h; exact hr _ _ h1
   ·rename_i d1 p1 h1
    split at h
    ·rename_i h2; injection h with h; subst h; exact D6l hr hf _ _ _ _ (by omega) h2
    ·split at h
     ·split at h
      ·injection h with h; omega
      ·split at h
       ·rename_i h3; injection h with h; subst h; exact hr _ _ h3
       ·exact A9y h
     ·exact A9y h
theorem D6n (hr : Errs rec) (hf : Fwd l rec) : Errs (dffS l rec) := fun p e h => by
 unfold dffS at h
 split at h
 ·injection h with h; omega
 ·split at h
  ·exact A9y h
  ·split at h
   ·rename_i h1; injection h with h; subst h; exact hr _ _ h1
   ·rename_i d1 p1 h1
    split at h
    ·rename_i h2; injection h with h; subst h; exact D6l hr hf _ _ _ _ (by omega) h2
    ·exact A9y h
theorem B5s {parts : List Ds} {r : Res Ds} {e : Int} (hr : ∀ e, r = .error e -> e ≠ 0) (h : A7y parts r = .error e) : e ≠ 0 := by
 unfold A7y at h
 split at h
 ·injection h with h; subst h; exact hr _ rfl
 ·cases h
theorem C9v {op k : Int} {p : Nat} {e : Int} (h : B2u op (A2u l p k) = .error e) : e ≠ 0 := by
 unfold B2u at h
 split at h
 ·rename_i h1; injection h with h; subst h; exact C1z h1
 ·cases h
theorem B5t (hr : Errs rec) (hf : Fwd l rec) {p : Nat} {parts : List Ds} {e : Int} (h : A6d l rec p parts = .error e) : e ≠ 0 := by
 unfold A6d at h
 split at h
 ·injection h with h; omega
 ·split at h
  ·cases h
  ·split at h
   ·injection h with h; omega
   ·split at h
    ·exact B5s (fun e h => C9v h) h
    ·split at h
     ·exact B5s (fun e h => C9v h) h
     ·split at h
      ·exact E1z hr hf _ _ _ _ (by omega) h
      ·split at h
       ·exact B5s (fun e h => D6m hr hf _ _ h) h
       ·split at h
        ·exact B5s (fun e h => D6n hr hf _ _ h) h
        ·injection h with h; omega
theorem D6o (hr : Errs rec) (hf : Fwd l rec) : ∀ (f p : Nat) (parts : List Ds) (e : Int), l.length - p < f -> andS l rec f p parts = .error e -> e ≠ 0
 | 0, p, parts, e, hl, _ => by omega
 | f + 1, p, parts, e, hl, h => by
  rw [andS] at h
  split at h
  ·rename_i hs
   have := A1q hs
   split at h
   ·injection h with h; omega
   ·split at h
    ·rename_i h1; injection h with h; subst h; exact B5t hr hf h1
    ·rename_i parts' p1 h1
     have := A6m hf h1
     exact D6o hr hf f _ _ _ (by omega) h
  ·cases h
end
theorem A8a {l : List KT} : ∀ n, Errs (desS l n)
 | 0 => fun p e h => by
  unfold desS at h
  split at h
  ·injection h with h; omega
  ·injection h with h; omega
 | n + 1 => fun p e h => by
  unfold desS at h
  split at h
  ·injection h with h; omega
  ·split at h
   ·rename_i h1; injection h with h; subst h; exact B5t (A8a n) (A5g n) h1
   ·rename_i parts p1 h1
    split at h
    ·rename_i h2; injection h with h; subst h; exact D6o (A8a n) (A5g n) _ _ _ _ (by omega) h2
    ·cases h
variable {q : Gl} {t : T} {l : List Tok} {i : Nat}
section
mutual
theorem C2a : ∀ p : PV, ren (fun x => x) p = p
 | .t _ => rfl
 | .row _ _ _ _ => rfl
 | .ptr _ _ => rfl
 | .ag cs => by simp only [ren, A8l cs]
 | .tu cs => by simp only [ren, A8l cs]
 | .fn _ a c => by simp only [ren, A8l a, A8l c]
 | .ic _ x => by simp only [ren, C2a x]
 | .mp _ => rfl
 | .dead => rfl
theorem A8l : ∀ ps : List PV, renL (fun x => x) ps = ps
 | [] => rfl
 | p :: ps => by simp only [renL, C2a p, A8l ps]
end
theorem C7o (r : Row) : A0v (fun x => x) r = r := by
 cases r with
 | cells ty cs => simp only [A0v, A8l]
 | iter s p => rfl
theorem B5u {P : Program} {G : A0t} {B nx nx' n : Nat} {env env' : List (Nat × PV)} {H H' : Heap} (F : List Nat) (hB : B <= nx') (he : ∀ x ∈ env', ∃ p, Abs.look env x.1 = some p /\ frzP H F p = x.2 /\ under nx' x.2 = true)
  (hH : ∀ x ∈ H', x.1 ∉ F /\ x.1 < nx' /\ A0m nx' x.2 = true /\ ∃ r, Abs.look H x.1 = some r /\ A7c H F r = x.2) : Sub P G B ⟨env, H, nx, n⟩ ⟨env', H', nx', n⟩ := by
 have hs : Sub P G B ⟨env, H, nx, n⟩ (A0b.frz ⟨env, H, nx, n⟩ F) := B6j F
 refine hs.trans (A7s (fun x => x) rfl hB (fun _ _ => rfl) (fun x hx => ?_) (fun x hx => ?_) (fun _ _ _ _ e => e))
 ·obtain ⟨p, h1, h2, h3⟩ := he x hx
  refine ⟨?_, h3⟩
  simp only [A0b.frz, A4x, h1, Option.map_some, h2, C2a]
 ·obtain ⟨h1, h2, h3, r, h4, h5⟩ := hH x hx
  refine ⟨?_, h2, h3⟩
  rw [C7o, <- h5]
  exact B2y h4 h1
theorem A6z (H : Heap) (F : List Nat) (x : T) : frzP H F (.t x) = .t x := rfl
theorem B5v (H : Heap) (F : List Nat) (b o : Nat) : frzP H F (.ptr b o) = .ptr b o := rfl
theorem C2b (H : Heap) (F : List Nat) (ty : TypeId) (cs : List PV) : A7c H F (.cells ty cs) = .cells ty (cs.map (frzP H F)) := rfl
theorem ld_c {H : Heap} {b ty o : Nat} {cs : List PV} (h : Abs.look H b = some (.cells ty cs)) : A0s false 1 H (.ptr b o) = cs[o]? := by simp only [A0s, h]; rfl
theorem tsS (s : ByteArray) : B6g 9 1 [.string ⟨#[]⟩] 1 [(0, .t (sv s))] = some (.t (.sl 1 [sv s])) := rfl
theorem st1 (H : Heap) (a b c d : T) (y z u v : PV) : A1b 4 ((1, .cells 25 [y, z, u, v]) :: H) (.ptr 1 0) (.t (.ag [a, b, c, d])) = some ((1, .cells 25 [.t a, .t b, .t c, .t d]) :: H) := rfl
theorem D6p {L : List KT} {p : Nat} {k : Int} (h : A7z L p k = false) : A2u L p k = .error (A4f L p) := by
 unfold A7z at h
 unfold A2u A4f
 cases hx : L[p]? with
 | none => rw [if_pos (by simpa using hx)]
 | some x =>
  rw [hx] at h
  have := (List.getElem?_eq_some_iff.1 hx).1
  simp only at h ⊢
  rw [if_neg (by simpa using h), if_neg (by omega)]
theorem bdZ {Φ : A0u} {H : Heap} {nx : Nat} : A0d Φ H nx (.build [(0, 1), (1, 1), (2, 1), (3, 1)] [.int .i64 0, .string ⟨#[]⟩, .slice none 0 0, .slice none 0 0] []) [] = some (.t (dT zDs), H, nx) := by
 rw [zDs, dT, A4p]; rfl
theorem E4d {H : Heap} {b ty : Nat} {x0 x1 x2 x3 : PV} (h : Abs.look H b = some (.cells ty [x0, x1, x2, x3])) (b4 : Nat) (path : List ByteArray) : A1b 1 H (.ptr b 2) (rowP eStr b4 path) = some (upd H b (.cells ty [x0, x1, rowP eStr b4 path, x3])) := by
 cases path <;> simp only [A1b, rowP, h] <;> rfl
end
theorem E4e (R : Heap) (d : Ds) (x0 x1 x2 x3 : PV) : A1b 4 ((2, .cells 25 [x0, x1, x2, x3]) :: R) (.ptr 2 0) (.t (dT d)) = some ((2, .cells 25 ((encD d).map .t)) :: R) := by
 cases d; rw [dT, encD]; rfl
theorem st_z0 (R : Heap) (X Y : Row) (d : Ds) (x0 x1 x2 x3 : PV) : A1b 4 ((2, X) :: (1, Y) :: (0, .cells 25 [x0, x1, x2, x3]) :: R) (.ptr 0 0) (.t (dT d)) = some ((2, X) :: (1, Y) :: (0, .cells 25 ((encD d).map .t)) :: R) := by
 cases d; rw [dT, encD]; rfl
theorem sp3 (R : Heap) (X Y : Row) (a b c d : PV) : A1b 1 ((3, X) :: (2, Y) :: (1, .cells 25 [a, b, c, d]) :: R) (.ptr 1 3) (.row 3 0 1 4) = some ((3, X) :: (2, Y) :: (1, .cells 25 [a, b, c, .row 3 0 1 4]) :: R) := rfl
theorem E4f {H : Heap} {d : Ds} (h : Abs.look H 3 = some (A3h eD 25 [d])) : frzP H [3] (.row 3 0 1 4) = .t (A2h eD [d]) := B4e (e := eD) (ty := 25) (b := 3) (l := [d]) (.inr h) List.mem_cons_self
theorem endT {R : T -> Prop} {env : List (Nat × PV)} {H : Heap} {nx n a b c ty : Nat} {d : Ds} {p e : Int} (h6 : Abs.look env a = some (.ptr 0 0)) (hl : Abs.look H 0 = some (.cells ty ((encD d).map .t))) (h7 : Abs.look env b = some (.t (iv p))) (h8 : Abs.look env c = some (.t (iv e)))
  (hR : R (.tu [dT d, iv p, iv e])) : B2a [RV.cell a true 4, RV.tmp b, RV.tmp c] R .ret ⟨env, H, nx, n⟩ := by
 have hd := ld_d hl
 refine C1b (ps := [.t (dT d), .t (iv p), .t (iv e)]) (r := .tu [dT d, iv p, iv e]) (F := []) ?_ rfl hR
 simp only [resM, h6, h7, h8, Option.getD_some, hd]
 try rfl
noncomputable def gWh (l : List Tok) (t : T) (n : Nat) (ts : List T) : Option T := open Classical in match ts with
 | [t', .v (.int .i64 i), .v (.int .i64 v)] => if t' = t /\ 0 <= i /\ i <= (l.length : Int) /\ v = 65 - (n : Int) then some (A3m (desS (l.map kt) n i.toNat)) else none
 | _ => none
theorem D6q {n : Nat} (hi : i <= l.length) : gWh l t n [t, iv (i : Int), iv (65 - (n : Int))] = some (A3m (desS (l.map kt) n i)) := by
 have : i = ((i : Int)).toNat := by omega
 exact (if_pos ⟨rfl, by omega, by omega, rfl⟩).trans (by rw [<- this])
abbrev WhOK (q : Gl) (t : T) (l : List Tok) (n : Nat) : Prop := GOK Tryz.prog (G q) 35 (gWh l t n)
noncomputable def tbR (l : List Tok) (t : T) (n : Nat) : Tbl := [(59, gRis l t), (87, gRkd l t), (88, gRwr l t), (60, gRfu), (35, gWh l t n)]
theorem E2a (ht : IsS eTok t l) {n : Nat} (hW : WhOK q t l n) : A0z Tryz.prog (G q) (tbR l t n) := .cons (B1i ht) (.cons (C7l ht) (.cons (C1y ht) (.cons B7l (.cons hW .nil))))
structure Rp where
 f : Nat
 p : Nat
 path : List ByteArray
abbrev D2k (b : Nat) (path : List ByteArray) : Row := .cells 25 [.t (iv 5), .t (sv ⟨#[]⟩), rowP eStr b path, .t nilS]
def SRp (t : T) (v : Int) (a : Rp) : A0b := ⟨[(1, .t (iv (a.p : Int))), (9, .ptr 1 0), (2, .t (iv v)), (0, .t t), (6, .ptr 0 0)], [(1, D2k 2 a.path), (0, zD)] ++ rowH eStr 9 2 a.path, 3, 63⟩
def SRqf (t : T) (v : Int) (a : Rp) : A0b := ⟨[(1, .t (iv (a.p : Int))), (9, .ptr 1 0), (2, .t (iv v)), (0, .t t), (6, .ptr 0 0)], [(1, .cells 25 [.t (iv 5), .t (sv ⟨#[]⟩), .t (A2h eStr a.path), .t nilS]), (0, zD)], 2, 63⟩
def C7p (L : List KT) : Nat -> Nat -> List ByteArray -> Res (List ByteArray)
 | 0, _, _ => .error 0
 | f + 1, p, path => match A2u L p 2 with
  | .error e => .error e
  | .ok (s, p1) => if isSy L p1 [46] then (if 64 <= path.length + 1 then .error 7 else C7p L f (p1 + 1) (path ++ [s])) else .ok (path ++ [s], p1)
theorem C9w {L : List KT} : ∀ (f p : Nat) (path : List ByteArray), L.length - p < f -> C7p L f p path = match A2u L p 2 with
  | .error e => .error e
  | .ok (s, p1) => B1g L f p1 (path ++ [s])
 | 0, p, path, h => by omega
 | f + 1, p, path, h => by
  rw [C7p]
  cases htk : A2u L p 2 with
  | error e => rfl
  | ok x =>
   obtain ⟨s, p1⟩ := x
   simp only
   rw [B1g]
   have := A7p htk
   cases hs : isSy L p1 [46] with
   | false => rfl
   | true =>
    have hl := A1q hs
    simp only [if_true, List.length_append, List.length_singleton]
    split
    ·rfl
    ·rw [C9w f (p1 + 1) _ (by omega)]
     cases A2u L (p1 + 1) 2 <;> rfl
theorem E6c {L : List KT} {rec : Nat -> Res Ds} {p : Nat} : A7x L rec p = B5g rec (C7p L (L.length + 1) p []) := by
 rw [C9w _ _ _ (by omega)]
 cases htk : A2u L p 2 with
 | error e => simp only [B5g]; unfold A7x; rw [htk]
 | ok x =>
  obtain ⟨s, p1⟩ := x
  exact D6b htk
theorem E0u (ht : IsS eTok t l) (hlim : l.length <= 1000000) {n : Nat} (hW : WhOK q t l n) (hn : n <= 64) (hi : i <= l.length) : A1k Tryz.prog (G q) 117 [t, iv (i : Int), iv (64 - (n : Int))] (· = A3m (A7x (l.map kt) (desS (l.map kt) n) i)) := by
 have C := (E2a ht hW).ctx mixed
 obtain ⟨L, hL⟩ : ∃ L, L = l.map kt := ⟨_, rfl⟩
 have hLl : L.length = l.length := by rw [hL, List.length_map]
 have his : ∀ (i : Nat) (s : ByteArray), gRis l t [t, iv (i : Int), sv s] = some (bv (isSy L i s.data.toList)) := fun i s => by rw [B4f, hL]
 have hkd : ∀ (i : Nat) (k : Int), gRkd l t [t, iv (i : Int), iv k] = some (bv (A7z L i k)) := fun i s => by rw [C7m, hL]
 have hwr : ∀ (i : Nat), gRwr l t [t, iv (i : Int)] = some (iv (A4f L i)) := fun i => by rw [B7m, hL]
 have hwh : ∀ {i : Nat}, i <= l.length -> gWh l t n [t, iv (i : Int), iv (65 - (n : Int))] = some (A3m (desS L n i)) := fun h => by rw [D6q h, hL]
 rw [<- hL, E6c]
 have ev : IntKind.i64.wrap (64 - (n : Int) + 1) = 65 - (n : Int) := by
  rw [A4h (by omega) (by omega)]; omega
 obtain ⟨Rr, hRr⟩ : ∃ Rr, Rr = C7p L (L.length + 1) i [] := ⟨_, rfl⟩
 rw [<- hRr]
 refine D1s.call rfl ?_
 unfold B9m
 refine A0a C ?_
 simp -implicitDefEqProofs
 refine A0a C ?_
 simp -implicitDefEqProofs [-evalK_build, bd1, st1]
 refine A2g (α := Rp) (SRqf t (64 - (n : Int))) (fun a => Rr = .ok (a.path, a.p) /\ a.path ≠ [] /\ a.p <= l.length) (fun _ => rfl) ?_ ?_
 ·refine A0w ?_
  refine A1l (SRp t (64 - (n : Int))) (fun a => a.f) (fun a => a.p <= L.length /\ L.length - a.p < a.f /\ a.path.length <= 63 /\ C7p L a.f a.p a.path = Rr) ⟨L.length + 1, i, []⟩ (fun _ => rfl) ⟨by show i <= _; omega, by show L.length - i < L.length + 1; omega, by simp, hRr.symm⟩ ?_ rfl ?_
  ·exact A2k (k := 2) (b := 2) (.inl rfl) (by omega) (by omega) (by simp -implicitDefEqProofs [A0v, renL, ren, A0m, A0x, under, rowP]) (by simp -implicitDefEqProofs [ren, under])
  ·rintro ⟨f, p, path⟩ ⟨hp, hfu, hpl, heq⟩
   simp only at hp hfu hpl heq
   rw [hLl] at hp hfu
   obtain ⟨f', rfl⟩ : ∃ f', f = f' + 1 := ⟨f - 1, by omega⟩
   rw [C7p] at heq
   refine A0w ?_
   obtain ⟨H0, hH0⟩ : ∃ H0 : Heap, H0 = (1, D2k 2 path) :: (0, zD) :: rowH eStr 9 2 path := ⟨_, rfl⟩
   have l00 : Abs.look H0 0 = some zD := by rw [hH0]; rfl
   have l01 : Abs.look H0 1 = some (D2k 2 path) := by rw [hH0]; rfl
   have r02 : A0n eStr 9 H0 2 path := by rw [hH0]; exact ((A0n.head' eStr 9 2 path).cons (by omega)).cons (by omega)
   have sz : A1b 4 H0 (.ptr 0 0) (.t (dT zDs)) = some (upd H0 0 (.cells 25 ((encD zDs).map .t))) := st_d l00
   cases hk : A7z L p 2 with
   | false =>
    have htk := D6p hk
    rw [htk] at heq
    simp only at heq
    rw [<- heq]
    have hk1 := hkd p 2
    rw [hk] at hk1
    refine A0c C ?_
    rw [hH0] at sz
    simp -implicitDefEqProofs [SRp, tbR, hk1, hwr, -evalK_build, bdZ, sz, -endsM_ret]
    exact endT (d := zDs) (ty := 25) rfl rfl rfl rfl rfl
   | true =>
    obtain ⟨x, hx, hxk⟩ : ∃ x, l[p]? = some x /\ x.k = 2 := by
     rw [hL] at hk
     unfold A7z at hk
     rw [C4r] at hk
     cases hx : l[p]? with
     | none => rw [hx] at hk; cases hk
     | some x => rw [hx] at hk; exact ⟨x, rfl, by simpa using hk⟩
    have hpl1 : p < l.length := (List.getElem?_eq_some_iff.1 hx).1
    obtain ⟨p1, hp1⟩ : ∃ p1, p1 = p + 1 := ⟨_, rfl⟩
    have htk : A2u L p 2 = .ok (bs x.t, p1) := by unfold A2u; rw [hL, C4r, hx, hp1]; simp [hxk]
    rw [htk] at heq
    simp only at heq
    have hk1 := hkd p 2
    rw [hk] at hk1
    obtain ⟨r, hr⟩ := C0b ht hx
    obtain ⟨p2, hp2⟩ : ∃ p2, p2 = p1 + 1 := ⟨_, rfl⟩
    have ew : IntKind.i64.wrap ((p : Int) + 1) = (p1 : Int) := A1a (by omega) (by omega)
    have ew2 : IntKind.i64.wrap ((p1 : Int) + 1) = (p2 : Int) := A1a (by omega) (by omega)
    have ld2 : A0s false 1 H0 (.ptr 1 2) = some (rowP eStr 2 path) := ld_c l01
    obtain ⟨b2, H2, n2, ap2, r2, ne2, hle2, hold, hb2⟩ := A4j (e := eStr) (ty := 9) (by' := 16) (nx := 3) (m := [bs x.t]) (src := .t (.sl 1 [sv (bs x.t)])) r02 (C9d (e := eStr) (l := [bs x.t]) (.inr (by simp [slT, eStr]))) (by simp; omega) (by simp; omega)
    have ap2' : appM 9 1 16 H0 3 (rowP eStr 2 path) (.t (.sl 1 [sv (bs x.t)])) = some (rowP eStr b2 (path ++ [bs x.t]), H2, n2) := ap2
    obtain ⟨path', hpath⟩ : ∃ path', path' = path ++ [bs x.t] := ⟨_, rfl⟩
    have hpl' : path'.length = path.length + 1 := by rw [hpath]; simp
    have hpne : path' ≠ [] := by rw [hpath]; simp
    rw [<- hpath] at ap2' r2 heq
    have l20 : Abs.look H2 0 = some zD := (hold 0 (by omega) (by omega)).trans l00
    have l21 : Abs.look H2 1 = some (D2k 2 path) := (hold 1 (by omega) (by omega)).trans l01
    have st := E4d l21 b2 path'
    obtain ⟨H3, hH3⟩ : ∃ H3 : Heap, H3 = upd H2 1 (D2k b2 path') := ⟨_, rfl⟩
    rw [<- hH3] at st
    have l30 : Abs.look H3 0 = some zD := by rw [hH3, A0g, if_neg (by omega), l20]
    have l31 : Abs.look H3 1 = some (D2k b2 path') := by rw [hH3, A0g, if_pos rfl, l21]; rfl
    have r3 : A0n eStr 9 H3 b2 path' := r2.imp id fun h => by rw [hH3, A0g, if_neg (by omega)]; exact h
    have ld3 : A0s false 1 H3 (.ptr 1 2) = some (rowP eStr b2 path') := ld_c l31
    have sz3 : A1b 4 H3 (.ptr 0 0) (.t (dT zDs)) = some (upd H3 0 (.cells 25 ((encD zDs).map .t))) := st_d l30
    have hlen : A2f (rowP eStr b2 path') = some (.t (iv (path'.length : Int))) := A7k eStr b2 path'
    have hi1 := his p1 ⟨#[46]⟩
    refine A0a C ?_
    simp -implicitDefEqProofs [SRp, tbR, hk1]
    rw [<- hH0]
    refine A0a C ?_
    simp -implicitDefEqProofs [ld2, hr, lp1, tsS, ap2', st]
    refine A0a C ?_
    simp -implicitDefEqProofs [ew]
    cases hs : isSy L p1 [46] with
    | false =>
     rw [hs] at heq
     simp only [Bool.false_eq_true, if_false] at heq
     have hi1 : gRis l t [t, iv (p1 : Int), sv ⟨#[46]⟩] = some (bv false) := by rw [hi1]; exact congrArg (fun b => some (bv b)) hs
     refine A0c C ?_
     simp -implicitDefEqProofs [tbR, hi1]
     refine Abs.Next.mk ⟨f', p1, path'⟩ ⟨heq.symm, hpne, by show p1 <= l.length; omega⟩ ?_
     refine B5u [b2] (by omega) ?_ ?_
     ·simp -implicitDefEqProofs [A6z, B5v, under]
     ·intro y hy
      simp only [List.mem_cons, List.not_mem_nil, or_false] at hy
      rcases hy with rfl | rfl
      ·exact ⟨by simp; omega, by show 1 < 2; omega, rfl, _, l31, by simp only [C2b, List.map_cons, List.map_nil, A6z, B4e r3 List.mem_cons_self]⟩
      ·exact ⟨by simp; omega, by show 0 < 2; omega, rfl, _, l30, rfl⟩
    | true =>
     rw [hs] at heq
     simp only [if_true] at heq
     have hpl2 : p1 < l.length := by have := A1q hs; omega
     have hi1 : gRis l t [t, iv (p1 : Int), sv ⟨#[46]⟩] = some (bv true) := by rw [hi1]; exact congrArg (fun b => some (bv b)) hs
     refine A0a C ?_
     simp -implicitDefEqProofs [tbR, hi1]
     by_cases hbig : 64 <= path.length + 1
     ·rw [if_pos hbig] at heq
      rw [<- heq]
      have hb1 : (64 : Int) <= (path'.length : Int) := by omega
      refine A0c C ?_
      simp -implicitDefEqProofs [ld3, hlen, hb1, -evalK_build, bdZ, sz3, -endsM_ret]
      exact endT (d := zDs) (ty := 25) rfl (by rw [A0g, if_pos rfl, l30]; rfl) rfl rfl rfl
     ·rw [if_neg hbig, <- hp2] at heq
      have hb1 : ¬ (64 : Int) <= (path'.length : Int) := by omega
      refine A0c C ?_
      simp -implicitDefEqProofs [ld3, hlen, hb1, ew2]
      refine Abs.Next.mk ⟨f', p2, path'⟩ ⟨⟨by show p2 <= _; omega, by show L.length - p2 < f'; omega, by show path'.length <= 63; omega, heq⟩, by show f' < f' + 1; omega⟩ ?_
      exact A2k (k := b2) (b := 2) r3 (by omega) (by omega) (by simp -implicitDefEqProofs [A0v, renL, ren, A1c, A0o, A0m, A0x, under, l30, l31]; omega) (by simp -implicitDefEqProofs [ren, under])
 ·rintro ⟨f2, p, path⟩ ⟨hRp, hne, hp⟩
  simp only at hRp hne hp
  rw [hRp]
  obtain ⟨H1, hH1⟩ : ∃ H1 : Heap, H1 = [(1, .cells 25 [.t (iv 5), .t (sv ⟨#[]⟩), .t (A2h eStr path), .t nilS]), (0, zD)] := ⟨_, rfl⟩
  have hw := hwh hp
  cases hd : desS L n p with
  | error e =>
   rw [hd] at hw
   have e2 : B5g (desS L n) (.ok (path, p)) = .error e := by simp only [B5g, hd]
   rw [e2]
   have hne0 := A8a n _ _ hd
   have hb : (e != 0) = true := by simpa using hne0
   refine A0a C ?_
   simp -implicitDefEqProofs [SRqf, tbR, ev, hw, A3m]
   rw [E4e, ifSome_some]
   refine A0c C ?_
   simp -implicitDefEqProofs [hb, -evalK_build, bdZ, st_z0, -endsM_ret]
   exact endT (d := zDs) (ty := 25) rfl rfl rfl rfl rfl
  | ok y =>
   obtain ⟨d, p3⟩ := y
   rw [hd] at hw
   have e2 : B5g (desS L n) (.ok (path, p)) = .ok (.mk 5 ⟨#[]⟩ path [d], p3) := by simp only [B5g, hd]
   rw [e2]
   obtain ⟨D, hD⟩ : ∃ D, D = Ds.mk 5 ⟨#[]⟩ path [d] := ⟨_, rfl⟩
   rw [<- hD]
   have eD1 : (encD D).map PV.t = [.t (iv 5), .t (sv ⟨#[]⟩), .t (A2h eStr path), .t (A2h eD [d])] := by rw [hD, A4p]; rfl
   refine A0a C ?_
   simp -implicitDefEqProofs [SRqf, tbR, ev, hw, A3m]
   rw [E4e, ifSome_some]
   refine A0a C ?_
   simp -implicitDefEqProofs
   have ld : A0s true 4 [(2, .cells 25 ((encD d).map PV.t)), (1, .cells 25 [.t (iv 5), .t (sv ⟨#[]⟩), .t (A2h eStr path), .t nilS]), (0, zD)] (.ptr 2 0) = some (.t (dT d)) := ld_d rfl
   refine A0a C ?_
   simp -implicitDefEqProofs [ld, bsD, sp3]
   refine MC.sub (s' := ⟨[(9, .ptr 1 0), (11, .t (iv (p3 : Int))), (6, .ptr 0 0)], [(1, .cells 25 ((encD D).map .t)), (0, zD)], 2, 63⟩) (B5u [3] (by omega) ?_ ?_) rfl ?_
   ·simp -implicitDefEqProofs [A6z, B5v, under]
   ·intro y hy
    simp only [List.mem_cons, List.not_mem_nil, or_false] at hy
    rcases hy with rfl | rfl
    ·refine ⟨by simp, by show 1 < 2; omega, B2x _ _, _, rfl, ?_⟩
     rw [eD1, C2b]
     simp only [List.map_cons, List.map_nil, A6z]
     rw [E4f (d := d) (by simp [Abs.look, A3h, eD])]
    ·exact ⟨by simp, by show 0 < 2; omega, rfl, _, rfl, rfl⟩
   ·have ld2 : A0s true 4 [(1, .cells 25 ((encD D).map PV.t)), (0, zD)] (.ptr 1 0) = some (.t (dT D)) := ld_d rfl
    have st2 : A1b 4 [(1, .cells 25 ((encD D).map PV.t)), (0, zD)] (.ptr 0 0) (.t (dT D)) = some _ := st_d rfl
    refine A0c C ?_
    simp -implicitDefEqProofs [ld2, st2, -endsM_ret]
    exact endT (d := D) (ty := 25) rfl rfl rfl rfl rfl
section
variable {L : List KT} {rec : Nat -> Res Ds}
def lsR (L : List KT) (rec : Nat -> Res Ds) (en : List UInt8) (diff : Bool) : Nat -> Nat -> Int -> List Ds -> Res Ds
 | 0, _, _, _ => .error 0
 | f + 1, p, op, kids => match rec p with
  | .error e => .error e
  | .ok (d, p1) => if isSy L p1 en then .ok (.mk op ⟨#[]⟩ [] (kids ++ [d]), p1 + 1)
   else if op = 7 \/ ((!diff && isSy L p1 [124]) = false /\ isSy L p1 [44] = false) then .error (A4f L p1)
   else if 256 <= kids.length + 1 then .error 7
   else lsR L rec en diff f (p1 + 1) (if (!diff && isSy L p1 [124]) = true then 7 else op) (kids ++ [d])
theorem A7q {p : Nat} {a b : List UInt8} (h : isSy L p a = true) (hab : a ≠ b) : isSy L p b = false := by
 unfold isSy at h ⊢
 cases hx : L[p]? with
 | none => rfl
 | some x =>
  rw [hx] at h
  simp only [Bool.and_eq_true, decide_eq_true_eq] at h
  simp only [Bool.and_eq_false_iff, decide_eq_false_iff_not]
  right
  rw [h.2]
  exact hab
theorem A9z {p : Nat} {s : List UInt8} {op : Int} {kids : List Ds} (h : isSy L p s = true) : A2x L s op kids p = .ok (.mk op ⟨#[]⟩ [] kids, p + 1) := by
 have := A1q h
 unfold A2x A3v
 rw [if_neg (by omega), if_pos h]
theorem C2c {p : Nat} {s : List UInt8} {op : Int} {kids : List Ds} (h : isSy L p s = false) : A2x L s op kids p = .error (A4f L p) := by
 unfold A2x A3v A4f
 rw [h]
 by_cases hp : L.length <= p
 ·rw [if_pos hp, if_pos hp]
 ·rw [if_neg hp, if_neg hp]
  rfl
theorem E6d {f p : Nat} {kids : List Ds} : lsR L rec [62] false (f + 1) p 7 kids = match rec p with
  | .error e => .error e
  | .ok (d, p1) => A2x L [62] 7 (kids ++ [d]) p1 := by
 rw [lsR]
 cases rec p with
 | error e => rfl
 | ok x =>
  obtain ⟨d, p1⟩ := x
  simp only
  cases hs : isSy L p1 [62] with
  | true => rw [A9z hs]; rfl
  | false => rw [C2c hs]; simp
def lsT (L : List KT) (rec : Nat -> Res Ds) : Res (List Ds) -> Res Ds
 | .error e => .error e
 | .ok (kids', p2) => if isSy L p2 [124] then (if 256 <= kids'.length then .error 7 else match rec (p2 + 1) with
   | .error e => .error e
   | .ok (d', p3) => A2x L [62] 7 (kids' ++ [d']) p3) else A2x L [62] 6 kids' p2
theorem C7q (hF : Fwd L rec) : ∀ (f p : Nat) (kids : List Ds), L.length - p < f -> lsR L rec [62] false f p 6 kids = match rec p with
  | .error e => .error e
  | .ok (d, p1) => lsT L rec (itS L rec f p1 (kids ++ [d]))
 | 0, p, kids, h => by omega
 | f + 1, p, kids, h => by
  rw [lsR]
  cases hd : rec p with
  | error e => rfl
  | ok x =>
   obtain ⟨d, p1⟩ := x
   have hf := hF _ _ _ hd
   simp only
   rw [itS]
   cases h62 : isSy L p1 [62] with
   | true =>
    have h44 := A7q h62 (b := [44]) (by decide)
    have h124 := A7q h62 (b := [124]) (by decide)
    rw [h44]
    simp only [if_true, Bool.false_eq_true, if_false, lsT, h124]
    rw [A9z h62]
   | false =>
    cases h124 : isSy L p1 [124] with
    | true =>
     have h44 := A7q h124 (b := [44]) (by decide)
     have hl := A1q h124
     rw [h44]
     simp only [Bool.false_eq_true, if_false, lsT, h124, if_true, List.length_append, List.length_singleton, Bool.not_false, Bool.true_and]
     rw [if_neg (by simp)]
     split
     ·rfl
     ·obtain ⟨f', rfl⟩ : ∃ f', f = f' + 1 := ⟨f - 1, by omega⟩
      rw [E6d]
    | false =>
     cases h44 : isSy L p1 [44] with
     | true =>
      have hl := A1q h44
      simp only [Bool.false_eq_true, if_false, h124, if_true, List.length_append, List.length_singleton, Bool.not_false, Bool.true_and]
      rw [if_neg (by simp)]
      split
      ·rfl
      ·rw [C7q hF f _ _ (by omega)]
       cases rec (p1 + 1) with
       | error e => rfl
       | ok y => rfl
     | false =>
      simp only [Bool.false_eq_true, if_false, lsT, h124]
      rw [if_pos (by simp), C2c h62]
theorem C7r (hF : Fwd L rec) : ∀ (f p : Nat) (kids : List Ds), L.length - p < f -> lsR L rec [33, 62] true f p 8 kids = match rec p with
  | .error e => .error e
  | .ok (d, p1) => match itS L rec f p1 (kids ++ [d]) with
   | .error e => .error e
   | .ok (kids', p2) => A2x L [33, 62] 8 kids' p2
 | 0, p, kids, h => by omega
 | f + 1, p, kids, h => by
  rw [lsR]
  cases hd : rec p with
  | error e => rfl
  | ok x =>
   obtain ⟨d, p1⟩ := x
   have hf := hF _ _ _ hd
   simp only
   rw [itS]
   cases h62 : isSy L p1 [33, 62] with
   | true =>
    have h44 := A7q h62 (b := [44]) (by decide)
    rw [h44]
    simp only [if_true, Bool.false_eq_true, if_false]
    rw [A9z h62]
   | false =>
    cases h44 : isSy L p1 [44] with
    | true =>
     have hl := A1q h44
     simp only [Bool.false_eq_true, if_false, if_true, List.length_append, List.length_singleton, Bool.not_true, Bool.false_and]
     rw [if_neg (by simp)]
     split
     ·rfl
     ·rw [C7r hF f _ _ (by omega)]
      cases rec (p1 + 1) with
      | error e => rfl
      | ok y => rfl
    | false =>
     simp only [Bool.false_eq_true, if_false]
     rw [if_pos (by simp), C2c h62]
def enB (diff : Bool) : ByteArray := if diff then ⟨#[33, 62]⟩ else ⟨#[62]⟩
def opB (diff : Bool) : Int := if diff then 8 else 6
def lstR (L : List KT) (rec : Nat -> Res Ds) (diff : Bool) (p : Nat) : Res Ds :=
 if isSy L p (enB diff).data.toList then .ok (.mk (opB diff) ⟨#[]⟩ [] [], p + 1) else lsR L rec (enB diff).data.toList diff (L.length + 1) p (opB diff) []
theorem lst_R (hF : Fwd L rec) (hend : ∀ p, L.length <= p -> rec p = .error 9) (p : Nat) : lstR L rec false p = lstS L rec p := by
 unfold lstR lstS
 show (if isSy L p [62] then Except.ok (Ds.mk 6 ⟨#[]⟩ [] [], p + 1) else lsR L rec [62] false (L.length + 1) p 6 []) = _
 by_cases hp : L.length <= p
 ·have : isSy L p [62] = false := by
   cases h : isSy L p [62] with
   | true => have := A1q h; omega
   | false => rfl
  rw [this, if_pos hp, C7q hF _ _ _ (by omega), hend p hp]
  rfl
 ·rw [if_neg hp]
  cases h : isSy L p [62] with
  | true => simp only [if_true]; rw [A9z h]
  | false =>
   simp only [Bool.false_eq_true, if_false]
   rw [C7q hF _ _ _ (by omega)]
   cases rec p with
   | error e => rfl
   | ok y =>
    obtain ⟨d, p1⟩ := y
    simp only [List.nil_append]
    cases itS L rec (L.length + 1) p1 [d] with
    | error e => rfl
    | ok z => rfl
theorem dff_R (hF : Fwd L rec) (hend : ∀ p, L.length <= p -> rec p = .error 9) (p : Nat) : lstR L rec true p = dffS L rec p := by
 unfold lstR dffS
 show (if isSy L p [33, 62] then Except.ok (Ds.mk 8 ⟨#[]⟩ [] [], p + 1) else lsR L rec [33, 62] true (L.length + 1) p 8 []) = _
 by_cases hp : L.length <= p
 ·have : isSy L p [33, 62] = false := by
   cases h : isSy L p [33, 62] with
   | true => have := A1q h; omega
   | false => rfl
  rw [this, if_pos hp, C7r hF _ _ _ (by omega), hend p hp]
  rfl
 ·rw [if_neg hp]
  cases h : isSy L p [33, 62] with
  | true => simp only [if_true]; rw [A9z h]
  | false =>
   simp only [Bool.false_eq_true, if_false]
   rw [C7r hF _ _ _ (by omega)]
   cases rec p with
   | error e => rfl
   | ok y => rfl
end
theorem D6r {L : List KT} : ∀ n p, L.length <= p -> desS L n p = .error 9
 | 0, p, h => by unfold desS; rw [if_pos h]
 | n + 1, p, h => by unfold desS; rw [if_pos h]
end Go.Proofs.YtjkkgbdoeaihmaaGreatDoor
