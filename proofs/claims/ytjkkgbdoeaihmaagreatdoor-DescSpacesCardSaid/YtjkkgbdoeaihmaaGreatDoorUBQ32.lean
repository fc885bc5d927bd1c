/-
 Auxiliary facts. No statement of the program stands here.
-/
import Derived.Test.YtjkkgbdoeaihmaaGreatDoorUBQ30
import Derived.Test.YtjkkgbdoeaihmaaGreatDoorUBQ31
import Derived.Test.YtjkkgbdoeaihmaaGreatDoorUBQ25
namespace Go.Proofs.YtjkkgbdoeaihmaaGreatDoor
set_option linter.unusedSimpArgs false
set_option linter.unusedVariables false
open Go Go.Abs
variable {q : Gl}
theorem bs_cat (a b : List UInt8) : bs a ++ bs b = bs (a ++ b) := by
 show (⟨a.toArray⟩ : ByteArray) ++ ⟨b.toArray⟩ = _
 apply ByteArray.ext
 simp [bs, ByteArray.data_append]
theorem sadd {a b : List UInt8} (h : a.length + b.length ≤ 2000000000) (Φ : Oracle) (H : Heap) (nx : Nat) : evalK Φ H nx (.bin false .add none) [.t (sv (bs a)), .t (sv (bs b))] = some (.t (sv (bs (a ++ b))), H, nx) := by
 have e : binM false .add (.string (bs a)) (.string (bs b)) = some (.string (bs a ++ bs b)) := by
  show (if (bs a).size + (bs b).size ≤ 9223372036854775807 then some (Value.string (bs a ++ bs b)) else none) = _
  exact if_pos (by show a.toArray.size + b.toArray.size ≤ _; rw [List.size_toArray, List.size_toArray]; omega)
 rw [← bs_cat]
 show (match binM false .add (.string (bs a)) (.string (bs b)) with
   | some v => some (PV.t (.v v), H, nx)
   | none => _) = _
 rw [e]
inductive Wr : Ds → Prop where
 | mk (op : Int) (name : ByteArray) (path : List ByteArray) (kids : List Ds) : 1 ≤ op → op ≤ 8 → (op = 5 → path ≠ [] ∧ kids.length = 1) → (op = 7 → 2 ≤ kids.length) → (op = 1 → name.size ≠ 0) → (op = 4 → kids ≠ []) → path.length ≤ 1000 → kids.length ≤ 1000 → (wrD (.mk op name path kids)).length ≤ 1000000000 → (∀ k ∈ kids, Wr k) → Wr (.mk op name path kids)
def stillW (sep last : List UInt8) (kids : List Ds) (j : Nat) : List UInt8 := (if j = 0 then [] else sepOf sep last (kids.drop j)) ++ wrL sep last (kids.drop j)
theorem rest_zero (sep last : List UInt8) (kids : List Ds) : stillW sep last kids 0 = wrL sep last kids := by simp [stillW]
theorem rest_end (sep last : List UInt8) (kids : List Ds) : stillW sep last kids kids.length = [] := by
 unfold stillW
 rw [List.drop_length]
 split <;> simp [sepOf, wrL]
def glueW (sep last : List UInt8) (n j : Nat) : List UInt8 := if j = 0 then [] else if j + 1 = n then last else sep
theorem rest_step (sep last : List UInt8) (kids : List Ds) {j : Nat} {x : Ds} (h : kids[j]? = some x) : stillW sep last kids j = glueW sep last kids.length j ++ (wrD x ++ stillW sep last kids (j + 1)) := by
 obtain ⟨hlt, he⟩ := List.getElem?_eq_some_iff.1 h
 unfold stillW glueW
 rw [List.drop_eq_getElem_cons hlt, he, wrL, if_neg (show ¬ j + 1 = 0 by omega)]
 by_cases h0 : j = 0
 ·rw [if_pos h0, if_pos h0]
 ·rw [if_neg h0, if_neg h0]
  congr 1
  cases hd : kids.drop (j + 1) with
  | nil =>
   have : kids.length ≤ j + 1 := List.drop_eq_nil_iff.1 hd
   rw [if_pos (by omega)]; rfl
  | cons y r =>
   have : (kids.drop (j + 1)).length = r.length + 1 := by rw [hd]; rfl
   rw [List.length_drop] at this
   rw [if_neg (by omega)]; rfl
def tailP : List ByteArray → List UInt8
 | [] => []
 | s :: r => 46 :: dotted (s :: r)
theorem dotted_cons (s : ByteArray) (r : List ByteArray) : dotted (s :: r) = s.data.toList ++ tailP r := by cases r <;> rfl
theorem saddn (b : UInt8) {s : ByteArray} (h : s.data.toList.length ≤ 1000000000) (Φ : Oracle) (H : Heap) (nx : Nat) : evalK Φ H nx (.bin false .add none) [.t (sv ⟨#[b]⟩), .t (sv s)] = some (.t (sv (bs (b :: s.data.toList))), H, nx) := by
 have := sadd (a := [b]) (b := s.data.toList) (by show 1 + _ ≤ _; omega) Φ H nx
 rw [bs_data] at this
 exact this
theorem Wr.parts {op : Int} {name : ByteArray} {path : List ByteArray} {kids : List Ds} (h : Wr (.mk op name path kids)) : 1 ≤ op ∧ op ≤ 8 ∧ (op = 5 → path ≠ [] ∧ kids.length = 1) ∧ (op = 7 → 2 ≤ kids.length) ∧ (op = 1 → name.size ≠ 0) ∧ (op = 4 → kids ≠ []) ∧ path.length ≤ 1000 ∧ kids.length ≤ 1000 ∧ (wrD (.mk op name path kids)).length ≤ 1000000000 ∧ ∀ k ∈ kids, Wr k := by
 cases h with
 | mk _ _ _ _ h1 h2 h3 h4 n1 n2 h5 h6 h7 h8 => exact ⟨h1, h2, h3, h4, n1, n2, h5, h6, h7, h8⟩
def priT (d : Ds) : T := if checkE d 1 ≠ 0 then .tu [sv ⟨#[]⟩, iv (checkE d 1)] else if 65536 < (wrD d).length then .tu [sv ⟨#[]⟩, iv 7] else .tu [sv (bs (wrD d)), iv 0]
theorem dotted_len : ∀ (path : List ByteArray), (∀ s ∈ path, s.size ≤ 60) → (dotted path).length ≤ 61 * path.length
 | [], _ => by simp [dotted]
 | s :: r, h => by
  have h1 : s.data.toList.length ≤ 60 := h s (by simp)
  have ih := dotted_len r (fun x hx => h x (by simp [hx]))
  rw [dotted_cons, List.length_append, List.length_cons]
  have : (tailP r).length ≤ 1 + (dotted r).length := by
   cases r with
   | nil => simp [tailP]
   | cons y r => simp [tailP]; omega
  omega
theorem Small.parts {op : Int} {name : ByteArray} {path : List ByteArray} {kids : List Ds} (h : Small (.mk op name path kids)) : name.size ≤ 60 ∧ path.length ≤ 80 ∧ (∀ s ∈ path, s.size ≤ 60) ∧ kids.length ≤ 400 ∧ ∀ k ∈ kids, Small k := by
 cases h with
 | mk _ _ _ _ h1 h2 h3 h4 h5 => exact ⟨h1, h2, h3, h4, h5⟩
theorem sepOf_len {α β : Type} {sep last : List α} (h1 : sep.length ≤ 3) (h2 : last.length ≤ 3) (r : List β) : (sepOf sep last r).length ≤ 3 := by
 match r with
 | [] => simp [sepOf]
 | [_] => exact h2
 | _ :: _ :: _ => exact h1
mutual
theorem wrD_size : ∀ d : Ds, Small d → (wrD d).length + 3 ≤ 6000 * nodesD d
 | .mk op name path kids, h => by
  obtain ⟨h1, h2, h3, h4, h5⟩ := h.parts
  have hd := dotted_len path h3
  have hn : name.data.toList.length ≤ 60 := h1
  have k1 := wrL_size [32, 38, 32] [32, 38, 32] (by simp) (by simp) kids h5
  have k2 := wrL_size [] [] (by simp) (by simp) kids h5
  have k3 := wrL_size [44, 32] [44, 32] (by simp) (by simp) kids h5
  have k4 := wrL_size [44, 32] [32, 124, 32] (by simp) (by simp) kids h5
  rw [wrD, nodesD]
  split
  ·omega
  ·split
   ·rw [List.length_cons]; omega
   ·split
    ·rw [List.length_cons]; omega
    ·split
     ·omega
     ·split
      ·simp only [List.length_cons, List.length_append, List.length_nil]; omega
      ·split
       ·simp only [List.length_cons, List.length_append, List.length_nil]; omega
       ·split
        ·simp only [List.length_cons, List.length_append, List.length_nil]; omega
        ·split
         ·simp only [List.length_cons, List.length_nil]; omega
         ·simp only [List.length_cons, List.length_append, List.length_nil]; omega
theorem wrL_size (sep last : List UInt8) (h1 : sep.length ≤ 3) (h2 : last.length ≤ 3) : ∀ l : List Ds, (∀ k ∈ l, Small k) → (wrL sep last l).length ≤ 6000 * nodesL l
 | [], _ => by simp [wrL]
 | d :: r, h => by
  have i1 := wrD_size d (h d (by simp))
  have i2 := wrL_size sep last h1 h2 r (fun k hk => h k (by simp [hk]))
  have i3 := sepOf_len h1 h2 r
  rw [wrL, nodesL, List.length_append, List.length_append]
  omega
end
theorem nodes_kid {k : Ds} : ∀ {l : List Ds}, k ∈ l → nodesD k ≤ nodesL l
 | d :: r, h => by
  rw [nodesL]
  rcases List.mem_cons.1 h with rfl | h
  ·omega
  ·have := nodes_kid h; omega
theorem checkL_kid {k : Ds} {lv : Nat} : ∀ {l : List Ds}, checkL l lv = 0 → k ∈ l → checkE k lv = 0
 | d :: r, h, hk => by
  rw [checkL] at h
  split at h
  ·rename_i h1; exact absurd h h1
  ·rename_i h1
   rcases List.mem_cons.1 hk with rfl | hk
   ·exact Decidable.of_not_not h1
   ·exact checkL_kid h hk
theorem Small.wr : ∀ {d : Ds}, Small d → nodesD d ≤ 100000 → ∀ {lv : Nat}, checkE d lv = 0 → Wr d := fun h => by
 induction h with
 | mk op name path kids h1 h2 h3 h4 h5 ih =>
  intro hn lv hc
  have hsz := wrD_size _ (Small.mk op name path kids h1 h2 h3 h4 h5)
  rw [checkE] at hc
  split at hc
  ·omega
  ·rename_i hlv
   split at hc
   ·rename_i hf; exact absurd hc hf
   ·rename_i hf
    have hf := Decidable.of_not_not hf
    unfold formE at hf
    split at hf
    ·omega
    ·rename_i hop
     split at hf
     ·rename_i hB
      unfold formB at hB
      simp only [Bool.and_eq_true] at hB
      obtain ⟨⟨⟨b1, b2⟩, b3⟩, b4⟩ := hB
      rw [nodesD] at hn hsz
      refine .mk op name path kids (by omega) (by omega) (fun e => ?_) (fun e => ?_) (fun e => ?_) (fun e => ?_) (by omega) (by omega) (by omega) (fun k hk => ih k hk (by have := nodes_kid hk; omega) (checkL_kid hc hk))
      ·subst e
       refine ⟨?_, ?_⟩
       ·rintro rfl; simp at b2
       ·unfold kidsB at b4
        simpa [leafOp] using b4
      ·subst e
       unfold kidsB at b4
       simpa [leafOp] using b4
      ·subst e
       intro hz
       rw [if_pos (by rfl), named_empty hz] at b1
       cases b1
      ·subst e
       rintro rfl
       unfold kidsB at b4
       simp [leafOp] at b4
     ·omega
def geB (s x : ByteArray) : Bool := !(Op.bytesLess s.toList x.toList)
def neB (s x : ByteArray) : Bool := !(s.toList == x.toList)
def wiS (x : ByteArray) : Bool → List ByteArray → List ByteArray
 | put, [] => if put then [] else [x]
 | put, s :: r => (if !put && geB s x then [x] else []) ++ ((if neB s x then [s] else []) ++ wiS x (put || geB s x) r)
mutual
def nmD (o : Int) : Ds → List ByteArray → List ByteArray
 | .mk op name _ kids, acc => nmL o kids (if op = o then wiS name false acc else acc)
def nmL (o : Int) : List Ds → List ByteArray → List ByteArray
 | [], acc => acc
 | d :: r, acc => nmL o r (nmD o d acc)
end
def namT (d : Ds) : T := .tu [treeS eStr (nmD 1 d []), treeS eStr (nmD 2 d [])]
end Go.Proofs.YtjkkgbdoeaihmaaGreatDoor
