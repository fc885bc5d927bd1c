/-
 Auxiliary facts. No statement of the program stands here.
-/
import Derived.Test.YtjkkgbdoeaihmaaGreatDoorUD3Q31
import Derived.Shelf.Slices.In.SortNone
import Derived.Lib.RowBridge
namespace Go.Proofs.YtjkkgbdoeaihmaaGreatDoor
set_option linter.unusedSimpArgs false
set_option linter.unusedVariables false
open Go Go.Abs Go.Sort
variable {q : Gl}
theorem E6w {P : Program} {G : A0t} {L : Abs.Loc} {H : Heap} {w w' : World} {g ty : Nat} {cs cs' : List PV} {arr arr' : Array Value} (hok : A1h P G L H w) (hl : Abs.look H g = some (.cells ty cs))
  (ha : w.heap[L.μ g]? = some (.cells arr ty (0, 0))) (ha' : w'.heap[L.μ g]? = some (.cells arr' ty (0, 0))) (hs : arr'.size = arr.size) (hsz : w.heap.size <= w'.heap.size) (hk : ∀ k, k < w.heap.size -> k ≠ L.μ g -> w'.heap[k]? = w.heap[k]?) (hout : A3s w w')
  (hlen : cs'.length <= arr'.size) (hc : ∀ (j : Nat) c, cs'[j]? = some c -> ∃ x, arr'[j]? = some x /\ x.oneCell' = true /\ RepV P L w' c x) :
  A1h P G L (Abs.upd H g (.cells ty cs')) w' /\ Mono L w L w' /\ Ext L H w L (Abs.upd H g (.cells ty cs')) w' := by
 have hsh : A2o w w' := fun k hkl a t fz e => by
  by_cases hkg : k = L.μ g
  ·subst hkg
   rw [ha'] at e
   injection e with e; injection e with e1 e2 e3
   subst e1; subst e2
   exact ⟨arr, (0, 0), ha, hs.symm⟩
  ·rw [hk k hkl hkg] at e
   exact ⟨a, fz, e, rfl⟩
 have hm : Mono L w L w' := ⟨fun k hI => ⟨hI, hk k (hok.lt k hI) (fun e => hok.apart g _ hl (e ▸ hI))⟩, Nat.le_refl _, fun _ _ => rfl, hsz, hsh⟩
 have old : ∀ k r, Abs.look (Abs.upd H g (.cells ty cs')) k = some r -> ∃ r0, Abs.look H k = some r0 := fun k r h => by
  rw [A0g] at h
  split at h
  ·rename_i e; subst e; exact ⟨_, hl⟩
  ·exact ⟨r, h⟩
 refine ⟨⟨fun k hI => Nat.lt_of_lt_of_le (hok.lt k hI) hsz, fun k r h => ?_, fun k r h => ?_, fun k k' r r' h h' e => ?_, fun k r h => ?_, A2z hok hm.keeps⟩, hm, ⟨hsz, fun k hkl hkm => hk k hkl (fun e => hkm ⟨g, _, hl, e.symm⟩), fun _ h => h, fun _ h => .inl h, fun k ⟨b, r, h, e⟩ => ?_, hsh, hout⟩⟩
 ·rw [A0g] at h
  split at h
  ·rename_i e
   subst e
   obtain ⟨_, _, rfl⟩ := A0i h
   exact ⟨arr', ha', hlen, hc⟩
  ·rename_i hne
   have hr := hok.rep k r h
   exact hr.keep hm (hk _ hr.lt (fun e => hne (hok.inj _ _ _ _ h hl e)))
 ·obtain ⟨r0, h0⟩ := old k r h
  exact hok.apart k _ h0
 ·obtain ⟨r0, h0⟩ := old k r h
  obtain ⟨r1, h1⟩ := old k' r' h'
  exact hok.inj _ _ _ _ h0 h1 e
 ·obtain ⟨r0, h0⟩ := old k r h
  exact hok.nx k _ h0
 ·obtain ⟨r0, h0⟩ := old b r h
  exact .inr ⟨b, _, h0, e⟩
abbrev lb (s : ByteArray) : List UInt8 := s.data.toList
def srtS (l : List ByteArray) : List ByteArray := ((l.map lb).mergeSort fun x y => decide (x <= y)).map bs
def cmpS (l : List ByteArray) : List ByteArray := (Lib.compact (l.map lb)).map bs
theorem B3d (l : List ByteArray) : (srtS l).length = l.length := by unfold srtS; rw [List.length_map, List.length_mergeSort, List.length_map]
theorem C2d (l : List ByteArray) : (cmpS l).length <= l.length := by
 unfold cmpS
 rw [List.length_map]
 exact Nat.le_trans (Lib.compact_length_le _) (by rw [List.length_map]; exact Nat.le_refl _)
theorem C5k (l : List ByteArray) : l.flatMap eStr.enc = l.map sv := by
 induction l with
 | nil => rfl
 | cons x l ih => rw [List.flatMap_cons, ih]; rfl
abbrev sRow (l : List ByteArray) : Row := .cells 9 ((l.map sv).map .t)
theorem C7x (l : List ByteArray) : A3h eStr 9 l = sRow l := by unfold A3h; rw [C5k]
theorem C5l (d : Array (List UInt8)) (arr : Array Value) : (putCells encStr 0 d arr).size = arr.size := by simp [putCells]
theorem E1e (d : Array (List UInt8)) (arr : Array Value) (j : Nat) (hj : j < d.size) (ha : j < arr.size) : (putCells encStr 0 d arr)[j]? = some (encStr d[j]!) := by
 unfold putCells
 rw [Array.getElem?_mapIdx, Array.getElem?_eq_getElem ha, Option.map_some, if_pos ⟨Nat.zero_le _, by omega⟩, Nat.sub_zero]
theorem B7t {L : Abs.Loc} {w : World} {H : Heap} {g : Nat} {l : List ByteArray} (hok : A1h Tryz.prog (G q) L H w) (hg : Abs.look H g = some (sRow l)) :
  ∃ arr, w.heap[L.μ g]? = some (.cells arr 9 (0, 0)) /\ l.length <= arr.size /\ Holds encStr w (L.μ g) 0 (l.map lb).toArray := by
 obtain ⟨arr, ha, hl, hc⟩ := hok.rep g _ hg
 rw [List.length_map, List.length_map] at hl
 refine ⟨arr, ha, hl, fun j hj => ?_⟩
 rw [List.size_toArray, List.length_map] at hj
 obtain ⟨x, hx, _, hr⟩ := hc j (.t (sv l[j])) (by simp [hj])
 simp only [RepV, RepT] at hr
 subst hr
 constructor
 ·simp only [World.cell?, ha, Nat.zero_add, hx]
  simp [hj]
 ·simp [World.frozen?, ha]
theorem C5m {L : Abs.Loc} {w : World} {H : Heap} {g n : Nat} {l m : List ByteArray} (os : Array Obj) (hok : A1h Tryz.prog (G q) L H w) (hg : Abs.look H g = some (sRow l)) (hm : m.length = l.length) :
  A1h Tryz.prog (G q) L (Abs.upd H g (sRow m)) (grow (putRow encStr (Sort.ahead w n) (L.μ g) 0 (m.map lb).toArray) os) /\ Mono L w L (grow (putRow encStr (Sort.ahead w n) (L.μ g) 0 (m.map lb).toArray) os) /\ Ext L H w L (Abs.upd H g (sRow m)) (grow (putRow encStr (Sort.ahead w n) (L.μ g) 0 (m.map lb).toArray) os) := by
 obtain ⟨arr, ha, hl, _⟩ := B7t hok hg
 have hlt : L.μ g < w.heap.size := (Array.getElem?_eq_some_iff.1 ha).1
 have hh : (putRow encStr (Sort.ahead w n) (L.μ g) 0 (m.map lb).toArray).heap = w.heap.modify (L.μ g) (onCells (putCells encStr 0 (m.map lb).toArray)) := rfl
 refine E6w (arr := arr) (arr' := putCells encStr 0 (m.map lb).toArray arr) hok hg ha ?_ (C5l _ _) ?_ (fun k hk hne => ?_) ⟨rfl, rfl, rfl⟩ ?_ (fun j c hj => ?_)
 ·rw [heap_grow_old _ _ (by rw [hh, Array.size_modify]; exact hlt), hh, Array.getElem?_modify, if_pos rfl, ha]
  rfl
 ·rw [size_grow, hh, Array.size_modify]; omega
 ·rw [heap_grow_old _ _ (by rw [hh, Array.size_modify]; exact hk), hh, Array.getElem?_modify, if_neg (Ne.symm hne)]
 ·rw [List.length_map, List.length_map, C5l]; omega
 ·rw [List.getElem?_map, List.getElem?_map] at hj
  obtain ⟨y, hy, rfl⟩ := Option.map_eq_some_iff.1 hj
  obtain ⟨x, hx, rfl⟩ := Option.map_eq_some_iff.1 hy
  have hjl : j < m.length := (List.getElem?_eq_some_iff.1 hx).1
  refine ⟨.string x, ?_, rfl, by simp only [RepV, RepT]⟩
  rw [E1e _ _ _ (by simpa using hjl) (by omega)]
  have e : ((m.map lb).toArray)[j]! = lb x := by
   have : m[j] = x := by rw [List.getElem?_eq_getElem hjl] at hx; injection hx
   simp [hjl, this]
  rw [e]
theorem D7n {H : Heap} {nx g : Nat} {l : List ByteArray} (hg : A0n eStr 9 H g l) (hl : l.length <= 1000000000) :
  A1d Tryz.prog (G q) 42 [rowP eStr g l] H nx (.t (.tu [])) (if l.isEmpty then H else Abs.upd H g (sRow (srtS l))) nx := by
 refine ⟨⟨_, (Tryz.f42.body).get!, Tryz.func42, by kernel_rfl, by kernel_rfl⟩, fun L w us hok hnx hargs => ?_⟩
 cases l with
 | nil =>
  have hus : us = #[.slice none 0 0] := by
   simp only [rowP, A0q, RepV, RepT] at hargs
   obtain ⟨x, xs, e, rfl, rfl⟩ := hargs
   exact Array.ext' e
  subst hus
  refine (Any.slices_Sort_string_none Tryz.lays190 none 0 w).mono ?_
  rintro e w' ⟨rfl, rfl⟩
  exact ⟨_, L, rfl, by simp [RepV, RepT, RepL], hok, hnx, Mono.refl L _, Ext.refl L H _⟩
 | cons x r =>
  have hg : Abs.look H g = some (sRow (x :: r)) := by rw [<- C7x]; exact hg.resolve_left (by simp)
  obtain ⟨arr, ha, hal, hH⟩ := B7t hok hg
  obtain ⟨c, hus⟩ : ∃ c, us = #[.slice (some ⟨L.μ g, 0, none⟩) (x :: r).length c] := by
   simp only [rowP, A0q, RepV] at hargs
   obtain ⟨y, ys, e, ⟨_, _, c, rfl, _⟩, rfl⟩ := hargs
   exact ⟨c, Array.ext' e⟩
  subst hus
  have hs := Tryz.slices_Sort_string (L.μ g) 0 c ((x :: r).map lb) w hH (Array.getElem?_eq_some_iff.1 ha).1 (by rw [List.length_map]; omega)
  rw [List.length_map] at hs
  refine hs.mono ?_
  rintro e w' ⟨rfl, n, os, rfl⟩
  have em : ((x :: r).map lb).mergeSort (fun x y => decide (x <= y)) = (srtS (x :: r)).map lb := by
   unfold srtS
   rw [List.map_map, show lb ∘ bs = id from rfl, List.map_id]
  rw [em]
  obtain ⟨h1, h2, h3⟩ := C5m (n := n) os hok hg (B3d (x :: r))
  exact ⟨_, L, rfl, by simp [RepV, RepT, RepL], h1, hnx, h2, h3⟩
def cmpR (l : List ByteArray) : List ByteArray := cmpS l ++ List.replicate (l.length - (cmpS l).length) ByteArray.empty
theorem E1f (l : List ByteArray) : (cmpR l).length = l.length := by
 have := C2d l
 unfold cmpR
 rw [List.length_append, List.length_replicate]; omega
def cmpP (g : Nat) (l : List ByteArray) : PV := if l.isEmpty then .t nilS else .row g 0 (cmpS l).length 1
theorem C5n {H : Heap} {nx g : Nat} {l : List ByteArray} (hg : A0n eStr 9 H g l) (hl : l.length <= 1000000000) :
  A1d Tryz.prog (G q) 43 [rowP eStr g l] H nx (cmpP g l) (if l.isEmpty then H else Abs.upd H g (sRow (cmpR l))) nx := by
 refine ⟨⟨_, (Tryz.f43.body).get!, Tryz.func43, by kernel_rfl, by kernel_rfl⟩, fun L w us hok hnx hargs => ?_⟩
 cases l with
 | nil =>
  have hus : us = #[.slice none 0 0] := by
   simp only [rowP, A0q, RepV, RepT] at hargs
   obtain ⟨x, xs, e, rfl, rfl⟩ := hargs
   exact Array.ext' e
  subst hus
  refine (Tryz.slices_Compact_string_empty none 0 w).mono ?_
  rintro e w' ⟨rfl, rfl⟩
  exact ⟨_, L, rfl, by simp [cmpP, RepV, RepT], hok, hnx, Mono.refl L _, Ext.refl L H _⟩
 | cons x r =>
  have hg : Abs.look H g = some (sRow (x :: r)) := by rw [<- C7x]; exact hg.resolve_left (by simp)
  obtain ⟨arr, ha, hal, hH⟩ := B7t hok hg
  obtain ⟨c, hus, hgn, hgl, hlc, hfit⟩ : ∃ c, us = #[.slice (some ⟨L.μ g, 0, none⟩) (x :: r).length c] /\ g < L.nx /\ L.μ g < w.heap.size /\ (x :: r).length <= c /\ ∀ arr ty fz, w.heap[L.μ g]? = some (.cells arr ty fz) -> 0 + c * 1 <= arr.size := by
   simp only [rowP, A0q, RepV] at hargs
   obtain ⟨y, ys, e, ⟨h1, h2, c, rfl, h3, h4⟩, rfl⟩ := hargs
   exact ⟨c, Array.ext' e, h1, h2, h3, h4⟩
  subst hus
  have hs := Tryz.slices_Compact_string (L.μ g) 0 c ((x :: r).map lb) w hH (by rw [List.length_map]; omega) (by rw [List.length_map]; omega)
  rw [List.length_map] at hs
  refine hs.mono ?_
  rintro e w' ⟨rfl, n, rfl⟩
  have el : (Lib.compact ((x :: r).map lb)).length = (cmpS (x :: r)).length := by unfold cmpS; rw [List.length_map]
  have em : Lib.compact ((x :: r).map lb) ++ List.replicate ((x :: r).length - (Lib.compact ((x :: r).map lb)).length) [] = (cmpR (x :: r)).map lb := by
   unfold cmpR
   rw [List.map_append, List.map_replicate, el]
   unfold cmpS
   rw [List.map_map, show lb ∘ bs = id from rfl, List.map_id]
   rfl
  rw [em, el]
  obtain ⟨h1, h2, h3⟩ := C5m (n := n) #[] hok hg (E1f (x :: r))
  rw [grow_empty] at h1 h2 h3
  refine ⟨_, L, rfl, ?_, h1, hnx, h2, h3⟩
  have hle := C2d (x :: r)
  simp only [cmpP, List.isEmpty_cons, Bool.false_eq_true, if_false, RepV]
  refine ⟨hgn, Nat.lt_of_lt_of_le hgl h2.size, c, rfl, by omega, fun a ty fz he => ?_⟩
  obtain ⟨a0, f0, e0, es⟩ := h2.shape _ hgl a ty fz he
  have := hfit a0 ty f0 e0
  omega
end Go.Proofs.YtjkkgbdoeaihmaaGreatDoor
