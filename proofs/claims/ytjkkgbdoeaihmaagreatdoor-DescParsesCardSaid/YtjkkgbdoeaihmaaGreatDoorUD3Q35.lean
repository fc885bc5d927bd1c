/-
 Auxiliary facts. No statement of the program stands here.
-/
import Derived.Test.YtjkkgbdoeaihmaaGreatDoorUD3Q31
import Derived.Test.YtjkkgbdoeaihmaaGreatDoorUD3Q34
import Derived.Test.YtjkkgbdoeaihmaaGreatDoorUD3Q18
import Derived.Test.YtjkkgbdoeaihmaaGreatDoorUD3Q01
namespace Go.Proofs.YtjkkgbdoeaihmaaGreatDoor
set_option linter.unusedSimpArgs false
set_option linter.unusedVariables false
open Go Go.Abs
theorem C0m {big : Bool} {c : UInt8} {r : List UInt8} (hb : (big = false /\ A3l c = true) \/ (big = true /\ isUp c = true)) (h : runN big (c :: r) <= 32) :
  (c :: r).take (runN big (c :: r)) ≠ [] /\ A0r big (bs ((c :: r).take (runN big (c :: r)))) = true := by
 have hp : A2i big c = true := by
  unfold A2i
  rcases hb with ⟨rfl, h0⟩ | ⟨rfl, h0⟩ <;> simp [h0]
 have hd : A1f c = false /\ ¬ c.toNat = 45 := by
  rcases hb with ⟨_, h⟩ | ⟨_, h⟩
  ·simp only [A3l, Bool.and_eq_true, decide_eq_true_eq] at h
   simp only [A1f, Bool.and_eq_false_iff, decide_eq_false_iff_not]
   omega
  ·simp only [isUp, Bool.and_eq_true, decide_eq_true_eq] at h
   simp only [A1f, Bool.and_eq_false_iff, decide_eq_false_iff_not]
   omega
 have e : (c :: r).take (runN big (c :: r)) = c :: (r.takeWhile (A2i big)) := by
  unfold runN
  rw [C0g, List.takeWhile_cons, if_pos hp]
 rw [e]
 refine ⟨by simp, ?_⟩
 have hl : (c :: r.takeWhile (A2i big)).length <= 32 := by
  rw [<- e, List.length_take]; omega
 have hs : (bs (c :: r.takeWhile (A2i big))).size = (c :: r.takeWhile (A2i big)).length := rfl
 unfold A0r
 have hall : (c :: r.takeWhile (A2i big)).all (A2i big) = true := by
  rw [List.all_cons, hp, Bool.true_and, List.all_eq_true]
  exact fun x hx => E2d hx
 show (decide ((bs (c :: r.takeWhile (A2i big))).size <= 32) && !A1f c && !decide (c.toNat = 45) && (c :: r.takeWhile (A2i big)).all (A2i big)) = true
 rw [hs, hall, hd.1, decide_eq_true hl, decide_eq_false hd.2]
 rfl
theorem E4o {t : Tok} (h : E6o t) : KOK (kt t) := by
 obtain ⟨c, r, he, hk, ht⟩ := h
 have e1 : (kt t).1 = t.k := rfl
 have e2 : (kt t).2 = t.t := rfl
 unfold KOK
 rw [e1, e2]
 rw [A2b] at he hk ht
 split at ht
 ·rename_i hl
  rw [if_pos hl] at he hk
  have hr : runN false (c :: r) <= 32 := by
   have he : (if 32 < runN false (c :: r) then (7 : Int) else 0) = 0 := he
   split at he
   ·cases he
   ·omega
  obtain ⟨h1, h2⟩ := C0m (.inl ⟨rfl, hl⟩) hr
  have hk : t.k = 1 := hk
  rw [hk, ht]
  exact ⟨fun _ => h1, fun _ => h2, fun h => absurd h (by decide)⟩
 ·rename_i hl
  rw [if_neg hl] at he hk
  split at ht
  ·rename_i hu
   rw [if_pos hu] at he hk
   have hr : runN true (c :: r) <= 32 := by
    have he : (if 32 < runN true (c :: r) then (7 : Int) else 0) = 0 := he
    split at he
    ·cases he
    ·omega
   obtain ⟨h1, h2⟩ := C0m (.inr ⟨rfl, hu⟩) hr
   have hk : t.k = 2 := hk
   rw [hk, ht]
   exact ⟨fun _ => h1, fun h => absurd h (by decide), fun _ => h2⟩
  ·rename_i hu
   rw [if_neg hu] at hk
   have : t.k = 4 \/ t.k = 3 \/ t.k = 5 := by
    split at hk
    ·exact .inl hk
    ·split at hk
     ·exact .inr (.inl hk)
     ·exact .inr (.inr hk)
   exact ⟨fun h => by omega, fun h => by omega, fun h => by omega⟩
theorem D8a {D : List UInt8} {l : Nat} {ts : List Tok} (h : B5f D l = .ok ts) : Toks (ts.map kt) := fun t ht => by
 obtain ⟨x, hx, rfl⟩ := List.mem_map.1 ht
 exact E4o ((D0a _ _ _ _ h).1 x hx)
theorem C0n {big : Bool} {s : ByteArray} (h : A0r big s = true) : s.size <= 32 := by
 obtain ⟨_, _, _, h, _⟩ := C7u h
 exact h
mutual
theorem B1n : ∀ (d : Ds) (lv : Nat), A1g d lv = 0 -> Small d
 | .mk op name path kids, lv, h => by
  obtain ⟨_, h2, h3, _, _, hf, hk⟩ := C7v h
  obtain ⟨f1, f2, f3, f4⟩ := D2w hf
  refine .mk op name path kids ?_ (by omega) (fun s hs => ?_) (by omega) (B5a kids _ hk)
  ·split at f1
   ·have := C0n f1; omega
   ·omega
  ·have := C0n (List.all_eq_true.1 f3 s hs); omega
theorem B5a : ∀ (l : List Ds) (lv : Nat), A5j l lv = 0 -> ∀ k ∈ l, Small k
 | [], _, _, k, hk => by cases hk
 | d :: r, lv, h, k, hk => by
  obtain ⟨h1, h2⟩ := C7w h
  rcases List.mem_cons.1 hk with e | hk
  ·rw [e]; exact B1n d lv h1
  ·exact B5a r lv h2 k hk
end
theorem D8b {D : List UInt8} {l : Nat} {ts : List Tok} (h : B5f D l = .ok ts) (k : Nat) {p p' : Nat} {d : Ds} (hd : desS ((ts.map kt).take k) 64 p = .ok (d, p')) : A1g d 1 = 0 /\ Small d := by
 have ht : Toks ((ts.map kt).take k) := fun t hm => D8a h t (List.mem_of_mem_take hm)
 have hg := D0h ht 64 (by omega) p d p' hd
 have h1 : A1g d 1 = 0 := hg.ok
 exact ⟨h1, B1n d 1 h1⟩
open Go Go.Shelf Go.RowKit
variable {P : Program} {ρ : Ren}
theorem C5s (w : World) (o : Obj) : Abs.A2o w (w.drew.alloc o) := fun k hk arr ty fz he => by
 have e : (w.drew.alloc o).heap[k]? = w.heap[k]? := by
  show (w.heap.push o)[k]? = _
  rw [Array.getElem?_push, if_neg (Nat.ne_of_lt hk)]
 rw [e] at he
 exact ⟨arr, fz, he, rfl⟩
def Buf (e : TypeId) (w : World) (v : Value) (n : Nat) (xs : List Value) : Prop :=
 xs.length = n /\ ((v = .slice none 0 0 /\ n = 0) \/ ∃ g cap cur, v = .slice (some ⟨g, 0, none⟩) n cap /\ w.heap[g]? = some (.cells cur e (0, 0)) /\ n <= cap /\ cap <= cur.size /\ cur.toList.take n = xs)
theorem Buf.keep {e : TypeId} {w w' : World} {v : Value} {n : Nat} {xs : List Value} (h : Buf e w v n xs) (hk : ∀ k, v.ownBlock = some k -> w'.heap[k]? = w.heap[k]?) : Buf e w' v n xs := by
 obtain ⟨h1, h2⟩ := h
 refine ⟨h1, h2.imp id fun h => ?_⟩
 obtain ⟨g, cap, cur, rfl, h3, h4⟩ := h
 exact ⟨g, cap, cur, rfl, (hk g rfl).trans h3, h4⟩
structure D8c (w w' : World) (b : Option Nat) (row row' : Option Nat) : Prop where
 os : w'.os = w.os
 tape : w'.tape = w.tape
 output : w'.output = w.output
 size : w.heap.size <= w'.heap.size
 block : ∀ k, k < w.heap.size -> some k ≠ b -> some k ≠ row -> w'.heap[k]? = w.heap[k]?
 shape : Abs.A2o w w'
 fresh : row' = row \/ row' = some w.heap.size
theorem B8a (w : World) (o : Obj) (row : Option Nat) : D8c w (w.drew.alloc o) none row (some w.heap.size) :=
 ⟨rfl, rfl, rfl, by show _ <= (w.heap.push o).size; simp, fun k hk _ _ => by show (w.heap.push o)[k]? = _; rw [Array.getElem?_push, if_neg (Nat.ne_of_lt hk)], C5s w o, .inr rfl⟩
theorem B8q (w : World) (t u ty e : TypeId) (i : TypeInfo) (ht : P.underlying t = some (.slice e)) (hu : P.underlying u = some .string) (hi : P.info? e = some i) (hz : i.zero = some (.int .u8 0))
  (hsize : i.size = 1) (hby : i.bytes = 1) (v : Value) (n : Nat) (xs : List Value) (hown : Buf e w v n xs) (s : ByteArray) (hbytes : n + s.size <= 140737488355328) :
  ∃ v' w', (Builtin.append_ #[t, u] ty #[v, .string s]).run P w = .ok v' w' /\ Buf e w' v' (n + s.size) (xs ++ Lib.strCells s) /\ D8c w w' none v.ownBlock v'.ownBlock := by
 obtain ⟨hxl, hown⟩ := hown
 have hlen : (xs ++ Lib.strCells s).length = n + s.size := by rw [List.length_append, hxl, Lib.strCells_length]
 have hz1 : (Value.int IntKind.u8 0).cells.size = 1 := rfl
 have new : ∀ old : Nat, Buf e (w.drew.alloc (.cells (xs.toArray ++ (Lib.strCells s).toArray ++ Builtin.zeroCells (Value.int .u8 0).cells (grownCap w (n + s.size) old e - (n + s.size))) e)) (.slice (some ⟨w.heap.size, 0, none⟩) (n + s.size) (grownCap w (n + s.size) old e)) (n + s.size) (xs ++ Lib.strCells s) := fun old => by
  have hge := grownCap_ge w (n + s.size) old e
  refine ⟨hlen, .inr ⟨w.heap.size, _, (xs.toArray ++ (Lib.strCells s).toArray ++ Builtin.zeroCells (Value.int .u8 0).cells (grownCap w (n + s.size) old e - (n + s.size))), rfl, ?_, hge, ?_, ?_⟩⟩
  ·show (w.heap.push _)[w.heap.size]? = _
   rw [Array.getElem?_push, if_pos rfl]
  ·simp only [Array.size_append, List.size_toArray, size_zeroCells, hz1, hxl, Lib.strCells_length]
   omega
  ·simp only [Array.toList_append, List.append_assoc]
   rw [<- List.append_assoc, <- hlen]
   exact List.take_left
 rcases hown with ⟨rfl, rfl⟩ | ⟨g, cap, cur, rfl, hg, hnc, hcs, htake⟩
 ·have hx : xs = [] := List.eq_nil_of_length_eq_zero hxl
  subst hx
  by_cases hm : s.size = 0
  ·have hf := Lib.run_firstCells_string (P := P) w 1 s
   rw [hm] at hf
   have hn : Lib.strCells s = [] := List.eq_nil_of_length_eq_zero (by rw [Lib.strCells_length]; exact hm)
   refine ⟨.slice none 0 0, w, ?_, by rw [hm, hn]; exact ⟨rfl, .inl ⟨rfl, rfl⟩⟩, ⟨rfl, rfl, rfl, Nat.le_refl _, fun _ _ _ _ => rfl, Abs.A2o.refl w, .inl rfl⟩⟩
   simp [Builtin.append_, run_underlying ht, run_underlying hu, sizeOf, typeInfo, hi, hsize, Builtin.lenOf, hm, hf]
  ·have h := run_append_nil_string (P := P) w t u ty e i (.int .u8 0) ht hu hi hz s (by omega) (by omega) (by rw [hby]; omega)
   have hgr := new 0
   simp only [Nat.zero_add, List.nil_append, Array.empty_append] at hgr ⊢
   have e1 : (s.data.map fun b => Value.int .u8 b.toNat) = (Lib.strCells s).toArray := by
    apply Array.ext'
    simp [Lib.strCells]
   rw [e1] at h
   exact ⟨_, _, h, hgr, B8a w _ _⟩
 ·by_cases hroom : n + s.size <= cap
  ·have h := Lib.run_append_room_string (P := P) w t u ty e i ht hu hi hsize g n cap cur hg s hroom (by omega)
   have hnew := setRow_heap w g cur (cur.toList.take n ++ Lib.strCells s ++ cur.toList.drop (n + s.size)).toArray e _ hg
   have hsz : (cur.toList.take n ++ Lib.strCells s ++ cur.toList.drop (n + s.size)).toArray.size = cur.size := by
    simp only [List.size_toArray, List.length_append, List.length_take, List.length_drop, Array.length_toList, Lib.strCells_length]
    omega
   refine ⟨_, _, h, ⟨hlen, .inr ⟨g, cap, _, rfl, hnew, hroom, by rw [hsz]; exact hcs, ?_⟩⟩, ⟨rfl, rfl, rfl, by simp, fun k _ _ hk => setRow_other w g k _ (fun e => hk (by simp [Value.ownBlock, e])), fun k hk arr ty fz he => ?_, .inl rfl⟩⟩
   ·rw [htake, <- hlen]
    exact List.take_left
   ·by_cases hkg : k = g
    ·subst hkg
     rw [hnew] at he
     injection he with he
     injection he with he1 he2 he3
     subst he1; subst he2
     exact ⟨cur, (0, 0), hg, hsz.symm⟩
    ·rw [setRow_other w g k _ hkg] at he
     exact ⟨arr, fz, he, rfl⟩
  ·have holds : ∀ j u, xs[j]? = some u -> w.cell? ((⟨g, 0, none⟩ : Addr).add j) = some u := fun j u hj => by
    have hjn : j < n := by have := (List.getElem?_eq_some_iff.1 hj).1; omega
    rw [<- htake, List.getElem?_take, if_pos hjn] at hj
    have ea : (⟨g, 0, none⟩ : Addr).add j = ⟨g, j, none⟩ := by simp only [Addr.add]; split <;> simp_all
    rw [ea, Lib.cell_of_heap hg]
    simpa using hj
   have h := Lib.run_append_grow_string (P := P) w t u ty e i (.int .u8 0) ht hu hi hz ⟨g, 0, none⟩ n cap xs (by rw [hsize]; simpa using hxl) holds s (by omega) (by omega) (by rw [hby]; exact growslice_fits (by omega) (by omega))
   exact ⟨_, _, h, new cap, B8a w _ _⟩
theorem C2k {ops : Array Oper} {rest : List Oper} {o : Oper} {a : Act} {w : World} {Q : Exit -> Act -> World -> Prop} (hgd : o.guard = none) (sl x : Operand) (t u : TypeId)
  (ho : o.op = .call { callee := .builtin .append, args := #[sl, x], argTypes := #[t, u] })
  (e : TypeId) (i : TypeInfo) (ht : P.underlying t = some (.slice e)) (hu : P.underlying u = some .string) (hi : P.info? e = some i) (hz : i.zero = some (.int .u8 0))
  (hsize : i.size = 1) (hby : i.bytes = 1)
  (v : Value) (n : Nat) (xs : List Value) (hs : a.eval sl = v) (hown : Buf e w v n xs) (s : ByteArray) (hx : a.eval x = .string s)
  (hbytes : n + s.size <= 140737488355328)
  (h : ∀ v' w', Buf e w' v' (n + s.size) (xs ++ Lib.strCells s) -> D8c w w' none v.ownBlock v'.ownBlock -> wpList P ops Q rest (a.put o.dst v') w') : wpList P ops Q (o :: rest) a w := by
 refine wpList_plain hgd fun K hK => ?_
 obtain ⟨v', w', hr, h2, h3⟩ := B8q (P := P) w t u o.type e i ht hu hi hz hsize hby v n xs hown s hbytes
 unfold Oper.wp execOp
 simp only [ho, resolve, invoke, builtin, Sem.run_bind, Sem.run_pure, Result.andThen_ok, List.map_toArray, List.map_cons, List.map_nil, hs, hx, hr]
 exact hK _ _ (h v' w' h2 h3)
set_option maxHeartbeats 1000000 in
set_option maxRecDepth 100000 in
theorem E1k (L : Lays.n240 P ρ) (X : Builder.X72 P ρ) (b c : Nat) (w : World) (h0 : w.cell? ⟨b, 0, none⟩ = some (.pointer none)) (hc : 0 < c) (hsh : w.shape? b = some ((ρ.t 72), c)) (hlies : liesAt P P.depth (ρ.t 72) (c / P.cellsOf (ρ.t 72)) 0 (ρ.t 72) 1 = true) (hfz : w.frozen? ⟨b, 0, none⟩ = false) :
  Calls P (ρ.f 240) #[.pointer (some ⟨b, 0, none⟩)] w fun e w' => e = .returned (.tuple #[]) /\ w' = w.setCell ⟨b, 0, none⟩ (.pointer (some ⟨b, 0, none⟩)) := by
 obtain ⟨j, hj, hjs⟩ := Option.map_eq_some_iff.1 X.sizeBuilder
 have mixed := L.mixed
 have t72 := L.t72; have a72 := L.a72; have z72 := L.z72; have v72 := L.v72; have u72 := run_underlying L.t72
 have t70 := L.t70; have a70 := L.a70; have z70 := L.z70; have v70 := L.v70; have u70 := run_underlying L.t70
 have t9 := L.t9; have a9 := L.a9; have z9 := L.z9; have v9 := L.v9; have u9 := run_underlying L.t9
 have t4 := L.t4; have a4 := L.a4; have z4 := L.z4; have v4 := L.v4; have u4 := run_underlying L.t4
 have t164 := L.t164; have a164 := L.a164; have z164 := L.z164; have v164 := L.v164; have u164 := run_underlying L.t164
 go_enter L.f240, Body.n240_ntmps ρ
 go_wp2
 rw [Lib.run_to_unsafe w ⟨b, 0, none⟩ L.t70 L.t164 hj (by rw [hjs]; decide) hsh hc]
 simp only [Result.andThen]
 rw [Oper.upon_value]
 go_wp2
 rw [run_callFunc_extern L.f276 (by kernel_rfl) (by kernel_rfl) (by kernel_rfl) (e := Extern.AbiNoEscape.same) (by kernel_rfl)]
 rw [Lib.run_noEscape]
 simp only [Result.andThen]
 rw [Oper.upon_value]
 go_wp2
 rw [Lib.run_from_unsafe w ⟨b, 0, none⟩ L.t164 L.t70 hj hsh hlies]
 simp only [Result.andThen]
 rw [Oper.upon_value]
 go_wp2
 go_end0
 exact ⟨rfl, rfl⟩
theorem D0i {w : World} {b o : Nat} {arr : Array Value} {T : TypeId} (hb : w.heap[b]? = some (.cells arr T (0, 0))) (x : Value) : (w.setCell ⟨b, o, none⟩ x).heap[b]? = some (.cells (arr.setIfInBounds o x) T (0, 0)) := by
 simp [World.setCell, Array.getElem?_modify, hb]
theorem C0o (w : World) (b o : Nat) (x : Value) : Abs.A2o w (w.setCell ⟨b, o, none⟩ x) := fun k hk arr ty fz he => by
 by_cases hkb : k = b
 ·subst hkb
  simp only [World.setCell, Array.getElem?_modify, if_true] at he
  obtain ⟨ob, h1, h2⟩ := Option.map_eq_some_iff.1 he
  cases ob with
  | cells c e f =>
   simp only [Option.isSome_none, Bool.false_eq_true, if_false] at h2
   injection h2 with h3 h4 h5
   subst h3; subst h4
   exact ⟨c, f, h1, by simp⟩
  | _ => simp at h2
 ·rw [show (w.setCell ⟨b, o, none⟩ x).heap[k]? = w.heap[k]? from Below.heap_setCell _ _ _ _ hkb] at he
  exact ⟨arr, fz, he, rfl⟩
set_option maxHeartbeats 2000000 in
set_option maxRecDepth 100000 in
theorem D8d (L : Lays.n166 P ρ) (X : Builder.Extra P ρ) (hlies : ∀ k, 1 <= k -> liesAt P P.depth (ρ.t 72) k 0 (ρ.t 72) 1 = true) (hc2 : P.cellsOf (ρ.t 72) = 2) (b : Nat) (arr : Array Value) (p v : Value) (xs : List Value) (s : ByteArray) (w : World) (hp : p = .pointer none \/ p = .pointer (some ⟨b, 0, none⟩))
  (hb : w.heap[b]? = some (.cells arr (ρ.t 72) (0, 0))) (ha0 : arr[0]? = some p) (ha1 : arr[1]? = some v)
  (hown0 : Buf (ρ.t 5) w v xs.length xs) (hne : v.ownBlock ≠ some b) (hlen : xs.length + s.size <= 140737488355328) :
  Calls P (ρ.f 166) #[.pointer (some ⟨b, 0, none⟩), .string s] w fun e w' => e = .returned (.tuple #[.int .i64 s.size, .nilIface]) /\
   ∃ v', w'.heap[b]? = some (.cells ((arr.setIfInBounds 0 (.pointer (some ⟨b, 0, none⟩))).setIfInBounds 1 v') (ρ.t 72) (0, 0)) /\ Buf (ρ.t 5) w' v' (xs.length + s.size) (xs ++ Lib.strCells s) /\ v'.ownBlock ≠ some b /\ D8c w w' (some b) v.ownBlock v'.ownBlock := by
 obtain ⟨i0, hi, hz0, hz1, hz2⟩ := info_parts X.infoByte
 have mixed := L.mixed
 have t72 := L.t72; have a72 := L.a72; have z72 := L.z72; have v72 := L.v72; have u72 := run_underlying L.t72
 have t70 := L.t70; have a70 := L.a70; have z70 := L.z70; have v70 := L.v70; have u70 := run_underlying L.t70
 have t37 := L.t37; have a37 := L.a37; have z37 := L.z37; have v37 := L.v37; have u37 := run_underlying L.t37
 have t3 := L.t3; have a3 := L.a3; have z3 := L.z3; have v3 := L.v3; have u3 := run_underlying L.t3
 have t9 := L.t9; have a9 := L.a9; have z9 := L.z9; have v9 := L.v9; have u9 := run_underlying L.t9
 have t4 := L.t4; have a4 := L.a4; have z4 := L.z4; have v4 := L.v4; have u4 := run_underlying L.t4
 have t164 := L.t164; have a164 := L.a164; have z164 := L.z164; have v164 := L.v164; have u164 := run_underlying L.t164
 have t5 := X.t5; have a5 := X.a5; have z5 := X.z5; have v5 := X.v5; have u5 := run_underlying X.t5
 have e240 : ∀ args w, (callFunc (ρ.f 240) args).run P w = .ok (.enter (ρ.f 240) args) w := enters_of L.f240 (by kernel_rfl) rfl
 have hblt : b < w.heap.size := (Array.getElem?_eq_some_iff.1 hb).1
 have hsz : 1 < arr.size := (Array.getElem?_eq_some_iff.1 ha1).1
 obtain ⟨arr1, harr1⟩ : ∃ arr1, arr1 = arr.setIfInBounds 0 (.pointer (some ⟨b, 0, none⟩)) := ⟨_, rfl⟩
 have h10 : arr1[0]? = some (.pointer (some ⟨b, 0, none⟩)) := by rw [harr1, Array.getElem?_setIfInBounds, if_pos rfl, if_pos (by omega)]
 have h11 : arr1[1]? = some v := by rw [harr1, Array.getElem?_setIfInBounds, if_neg (by omega), ha1]
 rw [<- harr1]
 have hcc : Calls P (ρ.f 240) #[.pointer (some ⟨b, 0, none⟩)] w fun e w' => e = .returned (.tuple #[]) /\ w'.heap[b]? = some (.cells arr1 (ρ.t 72) (0, 0)) /\ Buf (ρ.t 5) w' v xs.length xs /\ w'.heap.size = w.heap.size /\ w'.os = w.os /\ w'.tape = w.tape /\ w'.output = w.output /\ (∀ k, k ≠ b -> w'.heap[k]? = w.heap[k]?) /\ Abs.A2o w w' := by
  rcases hp with rfl | rfl
  ·refine (E1k { L with } X.toX72 b arr.size w (by rw [Lib.cell_of_heap hb, ha0]) (by omega) (by simp [World.shape?, hb]) (by rw [hc2]; exact hlies _ (by omega)) (Lib.frozen_of_heap hb 0)).mono ?_
   rintro e w' ⟨rfl, rfl⟩
   have hk : ∀ k, k ≠ b -> (w.setCell ⟨b, 0, none⟩ (.pointer (some ⟨b, 0, none⟩))).heap[k]? = w.heap[k]? := fun k hk => Below.heap_setCell _ _ _ _ hk
   refine ⟨rfl, by rw [harr1]; exact D0i hb _, ?_, by simp [World.setCell], rfl, rfl, rfl, hk, C0o _ _ _ _⟩
   exact hown0.keep fun k e => hk k (fun e2 => hne (by rw [e, e2]))
  ·refine (Any.Builder_copyCheck_used { L with } X.toX72 b w (by rw [Lib.cell_of_heap hb, ha0])).mono ?_
   rintro e w' ⟨rfl, rfl⟩
   have e1 : arr1 = arr := by
    rw [harr1]
    apply Array.ext (by simp)
    intro k hk1 hk2
    rw [Array.getElem_setIfInBounds (by simpa using hk2)]
    split
    ·rename_i e
     subst e
     rw [Array.getElem?_eq_getElem hk2] at ha0
     injection ha0 with ha0
     exact ha0.symm
    ·rfl
   exact ⟨rfl, by rw [e1]; exact hb, hown0, rfl, rfl, rfl, rfl, fun k _ => rfl, Abs.A2o.refl _⟩
 go_enter L.f166, Body.n166_ntmps ρ
 go_wp2_with (go_at_fn (ρ.f 240); refine hcc.mono ?_)
 rintro e w1 ⟨rfl, hbk, hown, hsz1, ho1, ho2, ho3, hk1, hsh1⟩
 have c0 : w1.cell? ⟨b, 0, none⟩ = some (.pointer (some ⟨b, 0, none⟩)) := by rw [Lib.cell_of_heap hbk, h10]
 have c1 : w1.cell? ⟨b, 1, none⟩ = some v := by rw [Lib.cell_of_heap hbk, h11]
 go_wp2_with (at_builtin; refine C2k rfl _ _ (ρ.t 37) (ρ.t 9) rfl (ρ.t 5) i0 L.t37 L.t9 hi hz0 hz1 hz2 _ _ _ rfl hown s rfl ?c4 ?_)
 case c4 => omega
 intro v' w2 hown' hgrow
 have hfresh := hgrow.fresh
 have hsh2 := hgrow.shape
 have hb2 : w2.heap[b]? = some (.cells arr1 (ρ.t 72) (0, 0)) := by
  rw [hgrow.block b (by omega) (by simp) (fun e => hne e.symm)]
  exact hbk
 have d0 : w2.cell? ⟨b, 0, none⟩ = some (.pointer (some ⟨b, 0, none⟩)) := by rw [Lib.cell_of_heap hb2, h10]
 have d1 : w2.cell? ⟨b, 1, none⟩ = some v := by rw [Lib.cell_of_heap hb2, h11]
 have f1 : w2.frozen? ⟨b, 1, none⟩ = false := Lib.frozen_of_heap hb2 1
 have hvo : v'.ownBlock ≠ some b := by
  rcases hfresh with h | h
  ·rw [h]; exact hne
  ·rw [h]; intro e; injection e with e; omega
 obtain ⟨ao, n', cap, rfl⟩ : ∃ ao n' cap, v' = .slice ao n' cap := by
  rcases hown'.2 with ⟨hv, _⟩ | ⟨g, cap, cur, hv, _⟩
  ·exact ⟨_, _, _, hv⟩
  ·exact ⟨_, _, _, hv⟩
 go_wp2
 go_ret2
 have hk2 : ∀ k, k ≠ b -> (w2.setCell ⟨b, 1, none⟩ (.slice ao n' cap)).heap[k]? = w2.heap[k]? := fun k hk => Below.heap_setCell _ _ _ _ hk
 refine ⟨rfl, .slice ao n' cap, D0i hb2 _, ?_, hvo, ⟨hgrow.os.trans ho1, hgrow.tape.trans ho2, hgrow.output.trans ho3, ?_, fun k hk hkb hkr => ?_, ?_, ?_⟩⟩
 ·exact hown'.keep fun k e => hk2 k (fun e2 => hvo (by rw [e, e2]))
 ·have := hgrow.size
  simp only [World.setCell, Array.size_modify]
  omega
 ·have hkb' : k ≠ b := fun e => hkb (by rw [e])
  rw [hk2 k hkb', hgrow.block k (by omega) (by simp) hkr, hk1 k hkb']
 ·exact (hsh1.trans (by omega) hsh2).trans (by have := hgrow.size; omega) (C0o _ _ _ _)
 ·rwa [hsz1] at hfresh
theorem C5t (k : Nat) (hk : 1 <= k) : liesAt Tryz.prog Tryz.prog.depth 64 k 0 64 1 = true := by
 obtain ⟨d, hd⟩ : ∃ d, Tryz.prog.depth = d + 1 := ⟨Tryz.prog.depth - 1, by kernel_rfl⟩
 have hs : Tryz.prog.cellsOf 64 = 2 := by kernel_rfl
 have hf : sameLayout Tryz.prog Tryz.prog.depth 64 64 = true := by kernel_rfl
 rw [hd] at hf ⊢
 rw [liesAt, hd, rowAt]
 simp only [hs, hf]
 have : 0 + 1 <= k := by omega
 simp [hk]
open Go Go.Abs Go.RowKit
variable {q : Gl}
def eB : Enc UInt8 := ⟨1, fun b => [.v (.int .u8 b.toNat)], fun _ => rfl, by omega, fun a b h => by
 injection h with h; injection h with h; injection h with _ h
 exact UInt8.toNat_inj.1 (by exact_mod_cast h)⟩
abbrev tyB : Nat := 64
abbrev tyU : Nat := 5
def bldR (p : PV) (g : Nat) (l : List UInt8) : Row := .cells tyB [p, rowP eB g l]
theorem C8e (l : List UInt8) : l.flatMap eB.enc = l.map fun b => T.v (.int .u8 b.toNat) := by
 induction l with
 | nil => rfl
 | cons x l ih => rw [List.flatMap_cons, ih]; rfl
def wsH (H : Heap) (b g nx : Nat) (l m : List UInt8) : Heap := (nx, A3h eB tyU m) :: upd (if l.isEmpty then H else rem H g) b (bldR (.ptr b 0) nx m)
theorem D8e (s : List UInt8) : Lib.strCells (bs s) = s.map fun b => Value.int .u8 b.toNat := by
 unfold Lib.strCells; simp [bs]
theorem E6z (b : Nat) (arr : Array Value) (p v : Value) (xs : List Value) (s : ByteArray) (w : World) (hp : p = .pointer none \/ p = .pointer (some ⟨b, 0, none⟩))
  (hb : w.heap[b]? = some (.cells arr tyB (0, 0))) (ha0 : arr[0]? = some p) (ha1 : arr[1]? = some v)
  (hown0 : Buf tyU w v xs.length xs) (hne : v.ownBlock ≠ some b) (hlen : xs.length + s.size <= 140737488355328) :
  Calls Tryz.prog 64 #[.pointer (some ⟨b, 0, none⟩), .string s] w fun e w' => e = .returned (.tuple #[.int .i64 s.size, .nilIface]) /\
   ∃ v', w'.heap[b]? = some (.cells ((arr.setIfInBounds 0 (.pointer (some ⟨b, 0, none⟩))).setIfInBounds 1 v') tyB (0, 0)) /\ Buf tyU w' v' (xs.length + s.size) (xs ++ Lib.strCells s) /\ v'.ownBlock ≠ some b /\ D8c w w' (some b) v.ownBlock v'.ownBlock :=
 D8d (ρ := Tryz.lays156_ren) { Tryz.lays156 with } Tryz.Builder_Extra_156 C5t (by kernel_rfl) b arr p v xs s w hp hb ha0 ha1 hown0 hne hlen
abbrev byV (l : List UInt8) : List Value := l.map fun b => Value.int .u8 b.toNat
theorem C8f {L : Abs.Loc} {w : World} {H : Heap} {g : Nat} {l : List UInt8} {v : Value} (hok : A1h Tryz.prog (G q) L H w) (hg : A0n eB tyU H g l) (hv : RepV Tryz.prog L w (rowP eB g l) v) :
  Buf tyU w v l.length (byV l) /\ (v.ownBlock = if l.isEmpty then none else some (L.μ g)) := by
 cases l with
 | nil =>
  simp only [rowP, RepV, RepT] at hv
  subst hv
  exact ⟨⟨rfl, .inl ⟨rfl, rfl⟩⟩, rfl⟩
 | cons x r =>
  rcases hg with hg | hg
  ·cases hg
  ·obtain ⟨arr, ha, hl, hc⟩ := hok.rep g _ hg
   simp only [rowP, RepV] at hv
   obtain ⟨_, _, c, rfl, hnc, hfit⟩ := hv
   have hf := hfit arr tyU (0, 0) ha
   have hz : eB.z = 1 := rfl
   rw [hz] at hf
   rw [C8e] at hl hc
   refine ⟨⟨by simp [byV], .inr ⟨L.μ g, c, arr, rfl, ha, hnc, by omega, ?_⟩⟩, rfl⟩
   apply List.ext_getElem?
   intro k
   rw [List.getElem?_take]
   by_cases hk : k < (x :: r).length
   ·rw [if_pos hk]
    obtain ⟨y, hy⟩ : ∃ y, (x :: r)[k]? = some y := ⟨_, List.getElem?_eq_getElem hk⟩
    obtain ⟨z, h1, _, h2⟩ := hc k (.t (.v (.int .u8 y.toNat))) (by simp only [List.getElem?_map, hy, Option.map_some])
    simp only [RepV, RepT] at h2
    subst h2
    simp only [byV, List.getElem?_map, hy, Option.map_some]
    simpa using h1
   ·rw [if_neg hk, List.getElem?_eq_none (by simpa [byV] using hk)]
theorem B0c {H : Heap} {b g nx k : Nat} {l m : List UInt8} {r : Row} (h : Abs.look (wsH H b g nx l m) k = some r) :
  (k = nx /\ r = A3h eB tyU m) \/ (k ≠ nx /\ k = b /\ r = bldR (.ptr b 0) nx m) \/ (k ≠ nx /\ k ≠ b /\ (l = [] \/ k ≠ g) /\ Abs.look H k = some r) := by
 unfold wsH at h
 rw [look_cons] at h
 split at h
 ·rename_i e
  injection h with h
  exact .inl ⟨e.symm, h.symm⟩
 ·rename_i hn
  rw [A0g] at h
  split at h
  ·rename_i e
   obtain ⟨_, _, rfl⟩ := A0i h
   exact .inr (.inl ⟨fun e => hn e.symm, e, rfl⟩)
  ·rename_i hb
   refine .inr (.inr ⟨fun e => hn e.symm, hb, ?_⟩)
   cases l with
   | nil => exact ⟨.inl rfl, h⟩
   | cons x r =>
    simp only [List.isEmpty_cons, Bool.false_eq_true, if_false] at h
    rw [A1s] at h
    split at h
    ·cases h
    ·exact ⟨.inr (by assumption), h⟩
theorem E7a {H : Heap} {b g : Nat} {p : PV} {l : List UInt8} (h : Abs.look H b = some (bldR p g l)) (hg : A0n eB tyU H g l) (hl : l ≠ []) : g ≠ b := by
 rintro rfl
 rcases hg with hg | hg
 ·exact hl hg
 ·rw [hg] at h
  injection h with h
  injection h with h1 h2
  exact absurd h1 (by decide)
theorem D8f {H : Heap} {nx b g : Nat} {p : PV} {l s : List UInt8} (h : Abs.look H b = some (bldR p g l)) (hp : p = .t (.v (.pointer none)) \/ p = .ptr b 0) (hg : A0n eB tyU H g l) (hs : s ≠ []) (hlen : l.length + s.length <= 140737488355328) :
  A1d Tryz.prog (G q) 64 [.ptr b 0, .t (sv (bs s))] H nx (.t (.tu [iv (s.length : Int), .v .nilIface])) (wsH H b g nx l (l ++ s)) (nx + 1) := by
 refine ⟨⟨_, (Tryz.f64.body).get!, Tryz.func64, by kernel_rfl, by kernel_rfl⟩, fun L w us hok hnx hargs => ?_⟩
 have hus : us = #[.pointer (some ⟨L.μ b, 0, none⟩), .string (bs s)] := by
  simp only [A0q, RepV, RepT] at hargs
  obtain ⟨x, xs, e, ⟨_, rfl⟩, y, ys, rfl, rfl, rfl⟩ := hargs
  exact Array.ext' e
 subst hus
 obtain ⟨arr, hb, hsz, hc⟩ := hok.rep b _ h
 obtain ⟨x0, ha0, _, hx0⟩ := hc 0 p rfl
 obtain ⟨v, ha1, _, hv⟩ := hc 1 (rowP eB g l) rfl
 have hp' : x0 = .pointer none \/ x0 = .pointer (some ⟨L.μ b, 0, none⟩) := by
  rcases hp with rfl | rfl
  ·simp only [RepV, RepT] at hx0; exact .inl hx0
  ·simp only [RepV] at hx0; exact .inr hx0.2
 obtain ⟨hbuf, hob⟩ := C8f hok hg hv
 have hgl : l ≠ [] -> Abs.look H g = some (A3h eB tyU l) := fun hl => hg.resolve_left hl
 have hbn : b < nx := hnx ▸ hok.nx b _ h
 have hne : v.ownBlock ≠ some (L.μ b) := by
  rw [hob]
  cases l with
  | nil => simp
  | cons y r =>
   intro e
   injection e with e
   exact E7a h hg (by simp) (hok.inj _ _ _ _ (hgl (by simp)) h e)
 have hl1 : (byV l).length = l.length := List.length_map ..
 have hl2 : (bs s).size = s.length := rfl
 refine (E6z (L.μ b) arr x0 v (byV l) (bs s) w hp' hb ha0 ha1 (by rw [hl1]; exact hbuf) hne (by rw [hl1, hl2]; exact hlen)).mono ?_
 rintro e w' ⟨rfl, v', hb', hbuf', hne', hW⟩
 rw [hl1, hl2, D8e] at hbuf'
 have hslen : 0 < s.length := List.length_pos_iff.2 hs
 obtain ⟨g', cap, cur, rfl, hg', hncap, hcap, htake⟩ : ∃ g' cap cur, v' = .slice (some ⟨g', 0, none⟩) (l.length + s.length) cap /\ w'.heap[g']? = some (.cells cur tyU (0, 0)) /\ l.length + s.length <= cap /\ cap <= cur.size /\ cur.toList.take (l.length + s.length) = byV l ++ byV s := by
  rcases hbuf'.2 with ⟨_, h0⟩ | h
  ·omega
  ·exact h
 have hmb : L.μ b < w.heap.size := (Array.getElem?_eq_some_iff.1 hb).1
 have hg'lt : g' < w'.heap.size := (Array.getElem?_eq_some_iff.1 hg').1
 have hg'b : g' ≠ L.μ b := fun e => hne' (by rw [e]; rfl)
 have hgn : (l ≠ [] /\ g' = L.μ g) \/ g' = w.heap.size := by
  rcases hW.fresh with h1 | h1
  ·left
   rw [hob] at h1
   cases l with
   | nil => cases h1
   | cons y r => injection h1 with h1; exact ⟨by simp, h1⟩
  ·right; injection h1
 have hkeep : ∀ k, k < w.heap.size -> k ≠ L.μ b -> (l = [] \/ k ≠ L.μ g) -> w'.heap[k]? = w.heap[k]? := fun k hk hkb hkg => hW.block k hk (fun e => hkb (by injection e)) (fun e => by
  rw [hob] at e
  cases l with
  | nil => cases e
  | cons y r =>
   injection e with e
   rcases hkg with h | h
   ·cases h
   ·exact h e)
 have hI : ∀ k, L.I k -> k < w.heap.size /\ k ≠ L.μ b /\ (l = [] \/ k ≠ L.μ g) := fun k hk => by
  refine ⟨hok.lt k hk, fun e => hok.apart b _ h (e ▸ hk), ?_⟩
  by_cases hl : l = []
  ·exact .inl hl
  ·exact .inr fun e => hok.apart g _ (hgl hl) (e ▸ hk)
 have hother : ∀ k r, Abs.look H k = some r -> k ≠ b -> (l = [] \/ k ≠ g) -> w'.heap[L.μ k]? = w.heap[L.μ k]? := fun k r hk hkb hkg => by
  refine hkeep _ (hok.rep k r hk).lt (fun e => hkb (hok.inj _ _ _ _ hk h e)) ?_
  rcases hkg with hl | hkg
  ·exact .inl hl
  ·by_cases hl : l = []
   ·exact .inl hl
   ·exact .inr fun e => hkg (hok.inj _ _ _ _ hk (hgl hl) e)
 let L' : Abs.Loc := ⟨L.I, fun k => if k = nx then g' else L.μ k, nx + 1⟩
 have hμ : ∀ k, k ≠ nx -> L'.μ k = L.μ k := fun k hk => if_neg hk
 have hμn : L'.μ nx = g' := if_pos rfl
 have hnb : b ≠ nx := by omega
 have hm : Mono L w L' w' := ⟨fun k hk => ⟨hk, by have := hI k hk; exact hkeep k this.1 this.2.1 this.2.2⟩, by show L.nx <= nx + 1; omega, fun k hk => hμ k (by omega), hW.size, hW.shape⟩
 have hIg : ¬ L.I g' := by
  rcases hgn with ⟨hl, e⟩ | e
  ·rw [e]; exact hok.apart g _ (hgl hl)
  ·rw [e]; intro hh; have := hok.lt _ hh; omega
 have hmne : l ++ s ≠ [] := by simp [hs]
 refine ⟨.tuple #[.int .i64 (bs s).size, .nilIface], L', rfl, ?_, ⟨fun k hk => Nat.lt_of_lt_of_le (hok.lt k hk) hW.size, fun k r hk => ?_, fun k r hk => ?_, fun k k' r r' hk hk' e => ?_, fun k r hk => ?_, A2z hok hm.keeps⟩, rfl, hm, ⟨hW.size, fun k hk hkm => ?_, fun _ h => h, fun _ h => .inl h, fun k hk => ?_, hW.shape, ⟨hW.os, hW.tape, hW.output⟩⟩⟩
 ·simp [RepV, RepT, RepL, hl2]
 ·rcases B0c hk with ⟨rfl, rfl⟩ | ⟨_, rfl, rfl⟩ | ⟨h1, h2, h3, h4⟩
  ·rw [hμn]
   refine ⟨cur, hg', ?_, fun j c hj => ?_⟩
   ·rw [C8e, List.length_map, List.length_map, List.length_append]; omega
   ·rw [C8e, List.getElem?_map, List.getElem?_map] at hj
    cases hy : (l ++ s)[j]? with
    | none => rw [hy] at hj; cases hj
    | some y =>
     rw [hy] at hj
     injection hj with hj
     subst hj
     have hjl : j < l.length + s.length := by have := (List.getElem?_eq_some_iff.1 hy).1; rwa [List.length_append] at this
     refine ⟨.int .u8 y.toNat, ?_, rfl, by simp only [RepV, RepT]⟩
     have : (cur.toList.take (l.length + s.length))[j]? = some (.int .u8 y.toNat) := by
      rw [htake, show byV l ++ byV s = byV (l ++ s) from (List.map_append ..).symm]
      simp only [byV, List.getElem?_map, hy, Option.map_some]
     rw [List.getElem?_take, if_pos hjl] at this
     simpa using this
  ·rw [hμ _ hnb]
   refine ⟨_, hb', by simpa using hsz, fun j c hj => ?_⟩
   have h2 : 1 < arr.size := (Array.getElem?_eq_some_iff.1 ha1).1
   match j, hj with
   | 0, hj =>
    injection hj with hj
    subst hj
    refine ⟨.pointer (some ⟨L.μ k, 0, none⟩), ?_, rfl, ?_⟩
    ·rw [Array.getElem?_setIfInBounds, if_neg (by omega), Array.getElem?_setIfInBounds, if_pos rfl, if_pos (by omega)]
    ·simp only [RepV]; exact ⟨by show k < nx + 1; omega, by rw [hμ _ hnb]⟩
   | 1, hj =>
    injection hj with hj
    subst hj
    refine ⟨.slice (some ⟨g', 0, none⟩) (l.length + s.length) cap, ?_, rfl, ?_⟩
    ·rw [Array.getElem?_setIfInBounds, if_pos rfl, if_pos (by simp; omega)]
    ·obtain ⟨y, r, e⟩ := List.exists_cons_of_ne_nil hmne
     have hel : (l ++ s).length = l.length + s.length := List.length_append ..
     rw [e] at hel ⊢
     simp only [rowP, RepV, hμn, hel]
     refine ⟨by show nx < nx + 1; omega, hg'lt, cap, rfl, hncap, fun arr' ty fz he => ?_⟩
     rw [hg'] at he
     injection he with he
     injection he with he1 he2 he3
     subst he1
     show 0 + cap * 1 <= _
     omega
   | j + 2, hj => cases hj
  ·rw [hμ _ h1]
   exact (hok.rep k r h4).keep hm (hother k r h4 h2 h3)
 ·rcases B0c hk with ⟨rfl, rfl⟩ | ⟨_, rfl, rfl⟩ | ⟨h1, h2, h3, h4⟩
  ·rw [hμn]; exact hIg
  ·rw [hμ _ hnb]; exact hok.apart k _ h
  ·rw [hμ _ h1]; exact hok.apart k _ h4
 ·have key : ∀ k r, Abs.look (wsH H b g nx l (l ++ s)) k = some r -> k ≠ nx -> L.μ k ≠ g' := fun k r hk hkn => by
   rcases B0c hk with ⟨rfl, rfl⟩ | ⟨_, rfl, rfl⟩ | ⟨h1, h2, h3, h4⟩
   ·exact absurd rfl hkn
   ·exact fun e => hg'b e.symm
   ·rcases hgn with ⟨hl, e⟩ | e
    ·rw [e]
     intro e2
     rcases h3 with h3 | h3
     ·exact hl h3
     ·exact h3 (hok.inj _ _ _ _ h4 (hgl hl) e2)
    ·rw [e]; have := (hok.rep k r h4).lt; omega
  have old : ∀ k r, Abs.look (wsH H b g nx l (l ++ s)) k = some r -> k ≠ nx -> ∃ r0, Abs.look H k = some r0 := fun k r hk hkn => by
   rcases B0c hk with ⟨rfl, rfl⟩ | ⟨_, rfl, rfl⟩ | ⟨h1, h2, h3, h4⟩
   ·exact absurd rfl hkn
   ·exact ⟨_, h⟩
   ·exact ⟨_, h4⟩
  by_cases k1 : k = nx
  ·by_cases k2 : k' = nx
   ·rw [k1, k2]
   ·rw [k1, hμn, hμ _ k2] at e
    exact absurd e.symm (key k' r' hk' k2)
  ·by_cases k2 : k' = nx
   ·rw [k2, hμn, hμ _ k1] at e
    exact absurd e (key k r hk k1)
   ·rw [hμ _ k1, hμ _ k2] at e
    obtain ⟨r0, h0⟩ := old k r hk k1
    obtain ⟨r1, h1⟩ := old k' r' hk' k2
    exact hok.inj _ _ _ _ h0 h1 e
 ·show k < nx + 1
  rcases B0c hk with ⟨rfl, rfl⟩ | ⟨_, rfl, rfl⟩ | ⟨h1, h2, h3, h4⟩
  ·omega
  ·omega
  ·have := hok.nx k _ h4; omega
 ·refine hkeep k hk (fun e => hkm ⟨b, _, h, e.symm⟩) ?_
  by_cases hl : l = []
  ·exact .inl hl
  ·exact .inr fun e => hkm ⟨g, _, hgl hl, e.symm⟩
 ·obtain ⟨k0, r, h0, e⟩ := hk
  rcases B0c h0 with ⟨rfl, rfl⟩ | ⟨_, rfl, rfl⟩ | ⟨h1, h2, h3, h4⟩
  ·rw [hμn] at e
   rcases hgn with ⟨hl, e2⟩ | e2
   ·exact .inr ⟨g, _, hgl hl, by rw [<- e, e2]⟩
   ·exact .inl (by omega)
  ·rw [hμ _ hnb] at e
   exact .inr ⟨_, _, h, e⟩
  ·rw [hμ _ h1] at e
   exact .inr ⟨_, _, h4, e⟩
open Go Go.Abs Go.Shelf Go.RowKit
section
variable {P : Program} {ρ : Ren}
set_option maxHeartbeats 1000000 in
set_option maxRecDepth 100000 in
theorem E4p (L : Lays.n169 P ρ) (X : Builder.Extra P ρ) (b g cap : Nat) (arr cur : Array Value) (l : List UInt8) (w : World) (hb : w.heap[b]? = some (.cells arr (ρ.t 72) (0, 0)))
  (ha1 : arr[1]? = some (.slice (some ⟨g, 0, none⟩) l.length cap)) (hg : w.heap[g]? = some (.cells cur (ρ.t 5) (0, 0))) (hnc : l.length <= cap) (hcs : cap <= cur.size) (htake : cur.toList.take l.length = byV l) (h0 : l ≠ []) (hlen : l.length <= 140737488355328) :
  Calls P (ρ.f 169) #[.pointer (some ⟨b, 0, none⟩)] w fun e w' => e = .returned (.string (bs l)) /\ w' = w.drew.freeze ⟨g, 0, none⟩ l.length := by
 have hl0 : l.length ≠ 0 := by simpa using h0
 have c1 : w.drew.cell? ⟨b, 1, none⟩ = some (.slice (some ⟨g, 0, none⟩) l.length cap) := by
  have : w.drew.heap[b]? = some (.cells arr (ρ.t 72) (0, 0)) := hb
  rw [Lib.cell_of_heap this]; exact ha1
 have hg' : w.drew.heap[g]? = some (.cells cur (ρ.t 5) (0, 0)) := hg
 have hSD : (Builtin.unsafeSliceData_ #[(ρ.t 37)] (ρ.t 127) #[.slice (some ⟨g, 0, none⟩) l.length cap]).run P w.drew = .ok (.pointer (some ⟨g, 0, none⟩)) w.drew :=
  Lib.run_unsafeSliceData_row _ _ _ _ _ _ (by omega)
 have hUS : (Builtin.unsafeString_ #[(ρ.t 127), (ρ.t 3)] (ρ.t 9) #[.pointer (some ⟨g, 0, none⟩), .int .i64 l.length]).run P w.drew = .ok (.string ⟨l.toArray⟩) (w.drew.freeze ⟨g, 0, none⟩ l.length) := by
  refine Lib.run_unsafeString_row w.drew (ρ.t 127) (ρ.t 3) (ρ.t 9) (ρ.t 5) L.t127 X.cellsByte g cur.size (by simp [World.shape?, hg']) l h0 (by omega) (by omega) ?_
  intro j x hx
  have hj : j < l.length := (List.getElem?_eq_some_iff.1 hx).1
  have : (cur.toList.take l.length)[j]? = some (.int .u8 x.toNat) := by rw [htake]; simp only [byV, List.getElem?_map, hx, Option.map_some]
  rw [List.getElem?_take, if_pos hj] at this
  have ea : (⟨g, 0, none⟩ : Addr).add j = ⟨g, j, none⟩ := by simp only [Addr.add]; split <;> simp_all
  rw [ea, Lib.cell_of_heap hg']
  simpa using this
 have mixed := L.mixed
 have t72 := L.t72; have a72 := L.a72; have z72 := L.z72; have v72 := L.v72; have u72 := run_underlying L.t72
 have t70 := L.t70; have a70 := L.a70; have z70 := L.z70; have v70 := L.v70; have u70 := run_underlying L.t70
 have t37 := L.t37; have a37 := L.a37; have z37 := L.z37; have v37 := L.v37; have u37 := run_underlying L.t37
 have t127 := L.t127; have a127 := L.a127; have z127 := L.z127; have v127 := L.v127; have u127 := run_underlying L.t127
 have t3 := L.t3; have a3 := L.a3; have z3 := L.z3; have v3 := L.v3; have u3 := run_underlying L.t3
 have t9 := L.t9; have a9 := L.a9; have z9 := L.z9; have v9 := L.v9; have u9 := run_underlying L.t9
 have t5 := X.t5; have a5 := X.a5; have z5 := X.z5; have v5 := X.v5; have u5 := run_underlying X.t5
 go_enter L.f169, Body.n169_ntmps ρ
 go_wp2
 go_region_o
 all_goals (go_wp2; go_ret; exact ⟨rfl, rfl⟩)
set_option maxHeartbeats 1000000 in
set_option maxRecDepth 100000 in
theorem E4q (L : Lays.n170 P ρ) (b : Nat) (arr : Array Value) (ao : Option Addr) (n cap : Nat) (w : World) (hb : w.heap[b]? = some (.cells arr (ρ.t 72) (0, 0))) (ha1 : arr[1]? = some (.slice ao n cap)) :
  Calls P (ρ.f 170) #[.pointer (some ⟨b, 0, none⟩)] w fun e w' => e = .returned (.int .i64 n) /\ w' = w := by
 have c1 : w.cell? ⟨b, 1, none⟩ = some (.slice ao n cap) := by rw [Lib.cell_of_heap hb]; exact ha1
 have mixed := L.mixed
 have t72 := L.t72; have a72 := L.a72; have z72 := L.z72; have v72 := L.v72; have u72 := run_underlying L.t72
 have t70 := L.t70; have a70 := L.a70; have z70 := L.z70; have v70 := L.v70; have u70 := run_underlying L.t70
 have t37 := L.t37; have a37 := L.a37; have z37 := L.z37; have v37 := L.v37; have u37 := run_underlying L.t37
 have t3 := L.t3; have a3 := L.a3; have z3 := L.z3; have v3 := L.v3; have u3 := run_underlying L.t3
 go_enter L.f170, Body.n170_ntmps ρ
 go_wp2
 go_ret
 exact ⟨rfl, rfl⟩
end
theorem D0j (w : World) (g k n : Nat) (h : k ≠ g) : (w.drew.freeze ⟨g, 0, none⟩ n).heap[k]? = w.heap[k]? := by
 unfold World.freeze
 split
 ·rfl
 ·simp only [Array.getElem?_modify]
  rw [if_neg (fun e => h e.symm)]
  rfl
theorem C2l (w : World) (g n : Nat) : (w.drew.freeze ⟨g, 0, none⟩ n).heap.size = w.heap.size := by
 unfold World.freeze
 split
 ·rfl
 ·simp only [Array.size_modify]; rfl
theorem C0p (w : World) (g n : Nat) : Abs.A2o w (w.drew.freeze ⟨g, 0, none⟩ n) := fun k hk arr ty fz he => by
 by_cases hkg : k = g
 ·subst hkg
  unfold World.freeze at he
  split at he
  ·exact ⟨arr, fz, he, rfl⟩
  ·simp only [Array.getElem?_modify, if_true] at he
   obtain ⟨ob, h1, h2⟩ := Option.map_eq_some_iff.1 he
   cases ob with
   | cells c e f =>
    obtain ⟨lo, hi⟩ := f
    injection h2 with h3 h4 h5
    subst h3; subst h4
    exact ⟨c, _, h1, rfl⟩
   | _ => simp at h2
 ·rw [D0j w g k n hkg] at he
  exact ⟨arr, fz, he, rfl⟩
theorem E7b (w : World) (g n : Nat) : A3s w (w.drew.freeze ⟨g, 0, none⟩ n) := by
 unfold World.freeze
 split
 ·exact ⟨rfl, rfl, rfl⟩
 ·exact ⟨rfl, rfl, rfl⟩
theorem E1l {H : Heap} {nx b g : Nat} {p : PV} {l : List UInt8} (h : Abs.look H b = some (bldR p g l)) (hg : A0n eB tyU H g l) (h0 : l ≠ []) (hlen : l.length <= 140737488355328) :
  A1d Tryz.prog (G q) 39 [.ptr b 0] H nx (.t (sv (bs l))) (rem H g) nx := by
 refine ⟨⟨_, (Tryz.f39.body).get!, Tryz.func39, by kernel_rfl, by kernel_rfl⟩, fun L w us hok hnx hargs => ?_⟩
 have hus : us = #[.pointer (some ⟨L.μ b, 0, none⟩)] := by
  simp only [A0q, RepV, RepT] at hargs
  obtain ⟨x, xs, e, ⟨_, rfl⟩, rfl⟩ := hargs
  exact Array.ext' e
 subst hus
 obtain ⟨arr, hb, hsz, hc⟩ := hok.rep b _ h
 obtain ⟨v, ha1, _, hv⟩ := hc 1 (rowP eB g l) rfl
 obtain ⟨⟨_, hbuf⟩, hob⟩ := C8f hok hg hv
 have hgl := hg.resolve_left h0
 have hpos : 0 < l.length := List.length_pos_iff.2 h0
 obtain ⟨g', cap, cur, rfl, hg', hnc, hcs, htake⟩ := hbuf.resolve_left (by rintro ⟨_, h⟩; omega)
 have hge : g' = L.μ g := by
  rw [show l.isEmpty = false by cases l <;> simp_all] at hob
  injection hob
 subst hge
 refine (E4p (ρ := Tryz.lays169_ren) Tryz.lays169 Tryz.Builder_Extra_169 (L.μ b) (L.μ g) cap arr cur l w hb ha1 hg' hnc hcs htake h0 hlen).mono ?_
 rintro e w' ⟨rfl, rfl⟩
 have hk : ∀ k, k ≠ L.μ g -> (w.drew.freeze ⟨L.μ g, 0, none⟩ l.length).heap[k]? = w.heap[k]? := fun k hk => D0j w _ k _ hk
 have hlook : ∀ k r, Abs.look (rem H g) k = some r -> Abs.look H k = some r /\ L.μ k ≠ L.μ g := fun k r hk => by
  rw [A1s] at hk
  split at hk
  ·cases hk
  ·rename_i hkg
   exact ⟨hk, fun e => hkg (hok.inj _ _ _ _ hk hgl e)⟩
 have hm : Mono L w L (w.drew.freeze ⟨L.μ g, 0, none⟩ l.length) := ⟨fun k hI => ⟨hI, hk k (fun e => hok.apart g _ hgl (e ▸ hI))⟩, Nat.le_refl _, fun _ _ => rfl, by rw [C2l]; exact Nat.le_refl _, C0p _ _ _⟩
 refine ⟨_, L, rfl, by simp only [RepV, RepT], ⟨fun k hI => by rw [C2l]; exact hok.lt k hI, fun k r hr => ?_, fun k r hr => hok.apart k r (hlook k r hr).1, fun k k' r r' hr hr' => hok.inj k k' r r' (hlook k r hr).1 (hlook k' r' hr').1, fun k r hr => hok.nx k r (hlook k r hr).1, A2z hok hm.keeps⟩, hnx, hm, ⟨by rw [C2l]; exact Nat.le_refl _, fun k hk2 hkm => hk k (fun e => hkm ⟨g, _, hgl, e.symm⟩), fun _ h => h, fun _ h => .inl h, fun k hkm => ?_, C0p _ _ _, E7b _ _ _⟩⟩
 ·obtain ⟨h1, h2⟩ := hlook k r hr
  exact (hok.rep k r h1).keep hm (hk _ h2)
 ·obtain ⟨k0, r, h1, e⟩ := hkm
  exact .inr ⟨k0, r, (hlook k0 r h1).1, e⟩
theorem E1m {H : Heap} {nx b g : Nat} {p : PV} {l : List UInt8} (h : Abs.look H b = some (bldR p g l)) (hg : A0n eB tyU H g l) :
  A1d Tryz.prog (G q) 38 [.ptr b 0] H nx (.t (iv (l.length : Int))) H nx := by
 refine ⟨⟨_, (Tryz.f38.body).get!, Tryz.func38, by kernel_rfl, by kernel_rfl⟩, fun L w us hok hnx hargs => ?_⟩
 have hus : us = #[.pointer (some ⟨L.μ b, 0, none⟩)] := by
  simp only [A0q, RepV, RepT] at hargs
  obtain ⟨x, xs, e, ⟨_, rfl⟩, rfl⟩ := hargs
  exact Array.ext' e
 subst hus
 obtain ⟨arr, hb, hsz, hc⟩ := hok.rep b _ h
 obtain ⟨v, ha1, _, hv⟩ := hc 1 (rowP eB g l) rfl
 obtain ⟨⟨_, hbuf⟩, _⟩ := C8f hok hg hv
 obtain ⟨ao, cap, rfl⟩ : ∃ ao cap, v = .slice ao l.length cap := by
  rcases hbuf with ⟨rfl, h0⟩ | ⟨g', cap, cur, rfl, _⟩
  ·exact ⟨none, 0, by rw [h0]⟩
  ·exact ⟨_, _, rfl⟩
 refine (E4q (ρ := Tryz.lays170_ren) Tryz.lays170 (L.μ b) arr ao l.length cap w hb ha1).mono ?_
 rintro e w' ⟨rfl, rfl⟩
 exact ⟨_, L, rfl, by simp only [RepV, RepT], hok, hnx, Mono.refl _ _, Ext.refl _ _ _⟩
noncomputable def gJo (ts : List T) : Option T := g2 (tSl eStr) tStr (fun l s => open Classical in if l.length <= 1000 /\ (Lib.join (l.map (·.data.toList)) s.data.toList).length <= 1000000000 then some (sv (bs (Lib.join (l.map (·.data.toList)) s.data.toList))) else none) ts
theorem hJo : GOK Tryz.prog (G q) 65 gJo := A8i fun a b l s r ha hb hr => by
 have e2 : b = .v (.string s) := hb
 subst e2
 split at hr
 ·rename_i hc
  injection hr with hr; subst hr
  refine ⟨⟨_, (Tryz.f65.body).get!, Tryz.func65, by kernel_rfl, by kernel_rfl⟩, fun I w us hlt hG hargs => ?_⟩
  obtain ⟨J, hJ⟩ : ∃ J, J = Lib.join (l.map (·.data.toList)) s.data.toList := ⟨_, rfl⟩
  rw [<- hJ] at hc ⊢
  have fin : Calls Tryz.prog 65 us w (fun e w' => e = .returned (.string (bs J)) /\ Below w.heap.size w w') -> Calls Tryz.prog 65 us w fun e w' => ∃ v r I', e = .returned v /\ r = sv (bs J) /\ RepT I' w' r v /\ A3s w w' /\ w.heap.size <= w'.heap.size /\ (∀ g, g < w.heap.size -> w'.heap[g]? = w.heap[g]?) /\
   (∀ g, I g -> I' g) /\ (∀ g, I' g -> I g \/ w.heap.size <= g) /\ (∀ g, I' g -> g < w'.heap.size) := fun h => h.mono fun e w' ⟨he, hb⟩ =>
   ⟨_, _, I, he, rfl, by simp only [RepT], ⟨hb.os, hb.tape, hb.output⟩, hb.size, hb.block, fun _ h => h, fun _ h => .inl h, fun g hg => Nat.lt_of_lt_of_le (hlt g hg) hb.size⟩
  refine fin ?_
  have hnone : ∀ (a0 : Option Addr) (c : Nat), l = [] -> us = #[.slice a0 0 c, .string s] -> Calls Tryz.prog 65 us w (fun e w' => e = .returned (.string (bs J)) /\ Below w.heap.size w w') := fun a0 c hl hu => by
   subst hl; subst hu
   have : J = [] := by rw [hJ]; rfl
   subst this
   exact (Tryz.strings_Join_none a0 c s w).mono fun e w' h => ⟨h.1, A6y h.2⟩
  rcases ha with ⟨rfl, hl⟩ | rfl
  ·simp only [RepL, RepT] at hargs
   obtain ⟨x, xs, e, rfl, y, ys, rfl, rfl, rfl⟩ := hargs
   exact hnone none 0 hl (Array.ext' e)
  ·simp only [slT, RepL, RepT] at hargs
   obtain ⟨x, xs, e, ⟨a0, c, rfl, hnc, hx⟩, y, ys, rfl, rfl, rfl⟩ := hargs
   rcases hx with ⟨hl, _⟩ | ⟨hsp, hI, hC⟩
   ·have hl' := List.eq_nil_of_length_eq_zero hl
    refine hnone (some a0) c hl' (Array.ext' (by rw [e, hl]))
   ·obtain ⟨bk, o, sp⟩ := a0
    simp only at hsp hI hC
    subst hsp
    have hu : us = #[.slice (some ⟨bk, o, none⟩) l.length c, .string s] := Array.ext' e
    subst hu
    rw [D9m] at hC
    rw [hJ]
    exact Tryz.strings_Join bk o c l s w (fun j x hx => by
     obtain ⟨z, h1, _, h2⟩ := hC.at_ j (c := .v (.string x)) (by rw [List.getElem?_map, hx]; rfl)
     simp only [RepT] at h2
     subst h2
     exact h1) (hlt bk hI) (by omega) hnc (by rw [<- hJ]; omega)
 ·cases hr
theorem E1n (l : List ByteArray) : Lib.join (l.map (·.data.toList)) [46] = A3r l := by
 cases l with
 | nil => rfl
 | cons s r =>
  rw [List.map_cons, Lib.join_cons, B1l]
  congr 1
  induction r with
  | nil => rfl
  | cons x r ih =>
   rw [List.map_cons, D7l, B1l, <- ih]
   simp [Lib.joinTail]
theorem E7c {t : T} {l : List ByteArray} (h : IsS eStr t l) (hl : l.length <= 1000) (hd : (A3r l).length <= 1000000000) : gJo [t, sv ⟨#[46]⟩] = some (sv (bs (A3r l))) := by
 have e : Lib.join (l.map (·.data.toList)) (⟨#[46]⟩ : ByteArray).data.toList = A3r l := E1n l
 show g2 _ _ _ _ = _
 rw [A8v (τ := tSl eStr) (σ := tStr) (x := l) (y := ⟨#[46]⟩) h rfl, e, if_pos ⟨hl, hd⟩]
section
variable {H : Heap} {b g NX : Nat} {l m : List UInt8}
theorem C5u {R : Row} (h : Abs.look H b = some R) (hb : b ≠ NX) (hg : l = [] \/ b ≠ g) : Abs.look (wsH H b g NX l m) b = some (bldR (.ptr b 0) NX m) := by
 unfold wsH
 rw [look_cons, if_neg (Ne.symm hb), A0g, if_pos rfl]
 cases l with
 | nil => show Option.map _ (Abs.look H b) = _; rw [h]; rfl
 | cons x r =>
  rw [if_neg (by simp), A1s, if_neg (hg.resolve_left (by simp)), h]; rfl
theorem A9b {k : Nat} (hk : k ≠ b) (hg : l = [] \/ k ≠ g) (hn : k ≠ NX) : Abs.look (wsH H b g NX l m) k = Abs.look H k := by
 unfold wsH
 rw [look_cons, if_neg (Ne.symm hn), A0g, if_neg hk]
 cases l with
 | nil => rfl
 | cons x r => rw [if_neg (by simp), A1s, if_neg (hg.resolve_left (by simp))]
theorem C5v : A0n eB tyU (wsH H b g NX l m) NX m := .inr (by unfold wsH; rw [look_cons, if_pos rfl])
theorem B0i (hb : b < NX) : (∀ k x, Abs.look H k = some x -> k < NX) -> ∀ k x, Abs.look (wsH H b g NX l m) k = some x -> k < NX + 1 := fun hf k x hk => by
 rcases B0c hk with ⟨rfl, _⟩ | ⟨_, rfl, _⟩ | ⟨_, _, _, h4⟩
 ·omega
 ·omega
 ·have := hf k x h4; omega
end
theorem W.lift {f : FuncId} {ps : List PV} {p : PV} {l m : List UInt8} {R0 : Heap} {n0 : Nat} {r : T}
  (h : A1d Tryz.prog (G q) f ps ([(0, bldR p 1 l)] ++ (rowH eB tyU 1 l ++ R0)) n0 (.t r) ([(0, bldR (.ptr 0 0) n0 m)] ++ (rowH eB tyU n0 m ++ R0)) (n0 + 1))
  {H : Heap} {NX : Nat} (σ : Nat -> Nat) (hσ : ∀ x, x < n0 -> σ x < NX) (hinj : ∀ x y, x < n0 -> y < n0 -> σ x = σ y -> x = y) (hn0 : 2 <= n0) (hm : m ≠ [])
  (hp : under n0 p = true) (h0 : Abs.look H (σ 0) = some (bldR (ren σ p) (σ 1) l)) (hg : A0n eB tyU H (σ 1) l)
  (hR : ∀ x ∈ R0, Abs.look H (σ x.1) = some (A0v σ x.2) /\ 2 <= x.1 /\ x.1 < n0 /\ A0m n0 x.2 = true) (hR2 : ∀ x ∈ R0, A0v (A1n σ n0 NX) x.2 = A0v σ x.2 /\ A0m (n0 + 1) x.2 = true /\ Abs.look R0 x.1 = some x.2) (hps : A0x n0 ps = true) :
  A1d Tryz.prog (G q) f (renL σ ps) H NX (.t r) (wsH H (σ 0) (σ 1) NX l m) (NX + 1) := by
 have h2 := A1d.lift h σ NX H (wsH H (σ 0) (σ 1) NX l m) hσ hinj (by omega) (fun x hx => ?_) hps rfl (fun x hx => ?_) (fun k x hk => ?_)
 ·rw [show NX + (n0 + 1 - n0) = NX + 1 by omega] at h2
  exact h2
 ·rcases List.mem_append.1 hx with hx | hx
  ·simp only [List.mem_singleton] at hx
   subst hx
   refine ⟨?_, by show 0 < n0; omega, ?_⟩
   ·rw [h0]
    simp only [bldR, A0v, renL, A1c]
   ·simp only [bldR, A0m, A0x, hp, A0o _ _ _ _ (show 1 < n0 by omega), Bool.and_self]
  ·rcases List.mem_append.1 hx with hx | hx
   ·obtain ⟨hn, rfl⟩ := A2p hx
    exact ⟨by show Abs.look H (σ 1) = _; rw [A1e]; exact hg.resolve_left hn, by show 1 < n0; omega, A0y _ _ _ _⟩
   ·obtain ⟨h1, _, h3, h4⟩ := hR x hx
    exact ⟨h1, h3, h4⟩
 ·rcases List.mem_append.1 hx with hx | hx
  ·simp only [List.mem_singleton] at hx
   subst hx
   refine ⟨by show 0 < n0 + 1; omega, ?_⟩
   simp only [bldR, A0m, A0x, A0o _ _ _ _ (show n0 < n0 + 1 by omega), Bool.and_self, under, Bool.and_true]
   exact decide_eq_true (by omega)
  ·rcases List.mem_append.1 hx with hx | hx
   ·obtain ⟨_, rfl⟩ := A2p hx
    exact ⟨by show n0 < n0 + 1; omega, A0y _ _ _ _⟩
   ·obtain ⟨_, _, h3, h4⟩ := hR x hx
    exact ⟨by omega, (hR2 x hx).2.1⟩
 ·rcases B0c hk with ⟨rfl, rfl⟩ | ⟨hkn, rfl, rfl⟩ | ⟨h1, h2, h3, h4⟩
  ·refine .inl ⟨n0, A3h eB tyU m, ?_, by simp [A1n], by rw [A1e]⟩
   exact ((A0n.head eB tyU R0 n0 m).cons (k := 0) (by omega)).resolve_left hm
  ·refine .inl ⟨0, bldR (.ptr 0 0) n0 m, rfl, by simp [A1n]; omega, ?_⟩
   have e0 : A1n σ n0 NX 0 = σ 0 := if_pos (by omega)
   have e1 : A1n σ n0 NX n0 = NX := by simp [A1n]
   simp only [bldR, A0v, renL, ren, A1c, e0, e1]
  ·by_cases hx : ∃ y ∈ R0, σ y.1 = k
   ·obtain ⟨y, hy, rfl⟩ := hx
    obtain ⟨k1, k2, k3, k4⟩ := hR y hy
    obtain ⟨j1, j2, j3⟩ := hR2 y hy
    refine .inl ⟨y.1, y.2, ?_, by simp [A1n, k3], ?_⟩
    ·show Abs.look ((0, _) :: (rowH eB tyU n0 m ++ R0)) y.1 = _
     rw [look_cons, if_neg (by omega)]
     cases m with
     | nil => exact j3
     | cons z r => show Abs.look ((n0, _) :: R0) y.1 = _; rw [look_cons, if_neg (by omega)]; exact j3
    ·rw [h4] at k1
     injection k1 with k1
     rw [j1, k1]
   ·refine .inr ⟨h4, fun b0 x0 hb0 e => ?_⟩
    rcases List.mem_append.1 (A0f hb0) with h5 | h5
    ·simp only [List.mem_singleton] at h5
     injection h5 with h5
     subst h5
     exact h2 e.symm
    ·rcases List.mem_append.1 h5 with h5 | h5
     ·obtain ⟨hn, h6⟩ := A2p h5
      injection h6 with h6
      subst h6
      rcases h3 with h3 | h3
      ·exact hn h3
      ·exact h3 e.symm
     ·exact hx ⟨_, h5, e⟩
abbrev pNil : PV := .t (.v (.pointer none))
def WrOK (q : Gl) (d : Ds) : Prop := ∀ (c : List T) (p : PV) (l : List UInt8), Abs.IsD d c -> (p = pNil \/ p = .ptr 0 0) -> l.length + (wrD d).length <= 1000000000 ->
 A1d Tryz.prog (G q) 37 [.ptr 0 0, .t (.ag c)] ([(0, bldR p 1 l)] ++ (rowH eB tyU 1 l ++ [])) 2 (.t (.tu [])) ([(0, bldR (.ptr 0 0) 2 (l ++ wrD d))] ++ (rowH eB tyU 2 (l ++ wrD d) ++ [])) 3
theorem D8g : FnOK Tryz.prog (G q) 63 3 23 A7v [] := by
 obtain ⟨fn, h1, h2, h3, h4, h5⟩ := B8i (q := q)
 exact ⟨fn, h1, h2, h3, h4, by omega⟩
theorem D8h : ∀ {d : Ds}, Wr d -> wrD d ≠ [] := fun h => by
 induction h with
 | mk op name path kids h1 h2 h3 h4 n1 n2 h5 h6 h7 h8 ih =>
  rw [wrD]
  split
  ·rename_i e
   intro hn
   have : name.data.toList.length = name.size := rfl
   rw [hn] at this
   exact n1 e this.symm
  ·split
   ·simp
   ·split
    ·simp
    ·split
     ·rename_i e
      obtain ⟨k, r, rfl⟩ := List.exists_cons_of_ne_nil (n2 e)
      rw [wrL]
      intro hn
      exact ih k (by simp) (List.append_eq_nil_iff.1 hn).1
     ·split
      ·simp
      ·split
       ·simp
       ·split
        ·simp
        ·split <;> simp
theorem WrOK.at_ {d : Ds} (h : WrOK q d) (hw : Wr d) {H : Heap} {NX b g : Nat} {p : PV} {l : List UInt8} {c : List T} (hc : Abs.IsD d c) (hl : l.length + (wrD d).length <= 1000000000) (h0 : Abs.look H b = some (bldR p g l)) (hp : p = pNil \/ p = .ptr b 0) (hg : A0n eB tyU H g l) (hb : b < NX) (hgn : g < NX) (hgb : g ≠ b) :
  A1d Tryz.prog (G q) 37 [.ptr b 0, .t (.ag c)] H NX (.t (.tu [])) (wsH H b g NX l (l ++ wrD d)) (NX + 1) := by
 obtain ⟨p0, hp0, hpr⟩ : ∃ p0, (p0 = pNil \/ p0 = .ptr 0 0) /\ p = ren (fun x => if x = 0 then b else g) p0 := by
  rcases hp with rfl | rfl
  ·exact ⟨pNil, .inl rfl, rfl⟩
  ·exact ⟨.ptr 0 0, .inr rfl, rfl⟩
 have hpu : under 2 p0 = true := by rcases hp0 with rfl | rfl <;> rfl
 have := W.lift (h c p0 l hc hp0 hl) (H := H) (NX := NX) (fun x => if x = 0 then b else g) (fun x _ => by show (if x = 0 then b else g) < NX; split <;> assumption)
  (fun x y hx hy e => by
   have e : (if x = 0 then b else g) = (if y = 0 then b else g) := e
   split at e <;> split at e <;> omega) (Nat.le_refl _) (by simp [D8h hw]) hpu (by rw [<- hpr]; exact h0) hg (fun x hx => (by cases hx)) (fun x hx => (by cases hx)) rfl
 exact this
theorem C2m {B nx nx' n k b : Nat} {env env' : List (Nat × PV)} {H R : Heap} {p : PV} {l : List UInt8} (h0 : Abs.look H 0 = some (bldR p k l)) (hp : p = pNil \/ p = .ptr 0 0) (hr : A0n eB tyU H k l) (hb : b < nx') (hB : B <= b) (hb0 : 0 < b) (hk0 : k ≠ 0)
  (hR : ∀ x ∈ R, Abs.look H x.1 = some (A0v (fun x => if x = b then k else x) x.2) /\ x.1 < nx' /\ x.1 ≠ b /\ x.1 ≠ k /\ A0m nx' x.2 = true /\ x.1 ≠ 0)
  (he : ∀ x ∈ env', Abs.look env x.1 = some (ren (fun x => if x = b then k else x) x.2) /\ under nx' x.2 = true) :
  Sub Tryz.prog (G q) B ⟨env, H, nx, n⟩ ⟨env', [(0, bldR p b l)] ++ (rowH eB tyU b l ++ R), nx', n⟩ := by
 have s0 : (if (0 : Nat) = b then k else 0) = 0 := if_neg (by omega)
 refine A7s (fun x => if x = b then k else x) rfl (by show B <= nx'; omega) (fun x hx => by show (if x = b then k else x) = x; rw [if_neg (by omega)]) he (fun x hx => ?_) (fun x hx y hy e => ?_)
 ·rcases List.mem_append.1 hx with hx | hx
  ·simp only [List.mem_singleton] at hx
   subst hx
   refine ⟨?_, by show 0 < nx'; omega, ?_⟩
   ·show Abs.look H (if (0 : Nat) = b then k else 0) = _
    rw [s0, h0]
    have : ren (fun x => if x = b then k else x) p = p := by
     rcases hp with rfl | rfl
     ·rfl
     ·simp only [ren, s0]
    simp only [bldR, A0v, renL, A1c, this, if_true]
   ·have : under nx' p = true := by
     rcases hp with rfl | rfl
     ·rfl
     ·exact decide_eq_true (by omega)
    simp only [bldR, A0m, A0x, this, A0o _ _ _ _ hb, Bool.and_self]
  ·rcases List.mem_append.1 hx with hx | hx
   ·obtain ⟨hn, rfl⟩ := A2p hx
    refine ⟨?_, hb, A0y _ _ _ _⟩
    show Abs.look H (if b = b then k else b) = _
    rw [if_pos rfl, A1e]
    exact hr.resolve_left hn
   ·obtain ⟨h1, h2, h3, h4, h5, h6⟩ := hR x hx
    refine ⟨?_, h2, h5⟩
    show Abs.look H (if x.1 = b then k else x.1) = _
    rw [if_neg h3]
    exact h1
 ·have cls : ∀ z, z ∈ [(0, bldR p b l)] ++ (rowH eB tyU b l ++ R) -> z.1 = 0 \/ z.1 = b \/ (z.1 ≠ 0 /\ z.1 ≠ b /\ z.1 ≠ k) := fun z hz => by
   rcases List.mem_append.1 hz with hz | hz
   ·simp only [List.mem_singleton] at hz
    subst hz; exact .inl rfl
   ·rcases List.mem_append.1 hz with hz | hz
    ·obtain ⟨_, rfl⟩ := A2p hz; exact .inr (.inl rfl)
    ·obtain ⟨h1, h2, h3, h4, h5, h6⟩ := hR z hz
     exact .inr (.inr ⟨h6, h3, h4⟩)
  have e : (if x.1 = b then k else x.1) = (if y.1 = b then k else y.1) := e
  have cx := cls x hx
  have cy := cls y hy
  split at e <;> split at e <;> omega
def tyBp : Nat := 61
abbrev boxB : Row := .cells tyBp [.ptr 0 0]
end Go.Proofs.YtjkkgbdoeaihmaaGreatDoor
