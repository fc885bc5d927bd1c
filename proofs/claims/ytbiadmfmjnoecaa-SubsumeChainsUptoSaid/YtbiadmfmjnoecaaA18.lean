/-
  What each kind of operation gives, as equations. No statement of the program stands here.
-/
import Derived.Test.YtbiadmfmjnoecaaA17
namespace Go.Abs
set_option linter.unusedSimpArgs false
set_option linter.unusedVariables false
open Go
section
variable {Φ : Oracle} {H : Heap} {nx : Nat}
@[simp] theorem evalK_mv  (x : PV) : evalK Φ H nx .mv [x] = some (x, H, nx) := rfl
@[simp] theorem quietK_mv  : quietK .mv = true := rfl
@[simp] theorem evalQ_mv  (ps : List PV) : evalQ Φ H nx .mv ps = (evalK Φ H nx .mv ps).map (·.1) := rfl
@[simp] theorem evalK_un (op : UnOp) (a : Value) : evalK Φ H nx (.un op) [.t (.v a)] = (unV op a).map fun v => (.t (.v v), H, nx) := rfl
@[simp] theorem quietK_un (op : UnOp) : quietK (.un op) = true := rfl
@[simp] theorem evalQ_un (op : UnOp) (ps : List PV) : evalQ Φ H nx (.un op) ps = (evalK Φ H nx (.un op) ps).map (·.1) := rfl
@[simp] theorem evalK_conv (k : Option IntKind) (x : PV) : evalK Φ H nx (.conv k) [x] = (convM k x).map fun r => (r, H, nx) := rfl
@[simp] theorem quietK_conv (k : Option IntKind) : quietK (.conv k) = true := rfl
@[simp] theorem evalQ_conv (k : Option IntKind) (ps : List PV) : evalQ Φ H nx (.conv k) ps = (evalK Φ H nx (.conv k) ps).map (·.1) := rfl
@[simp] theorem evalK_load (agg : Bool) (n : Nat) (x : PV) : evalK Φ H nx (.load agg n) [x] = (loadM agg n H x).map fun r => (r, H, nx) := rfl
@[simp] theorem quietK_load (agg : Bool) (n : Nat) : quietK (.load agg n) = true := rfl
@[simp] theorem evalQ_load (agg : Bool) (n : Nat) (ps : List PV) : evalQ Φ H nx (.load agg n) ps = (evalK Φ H nx (.load agg n) ps).map (·.1) := rfl
@[simp] theorem evalK_faddr (off : Nat) (x : PV) : evalK Φ H nx (.faddr off) [x] = (faddrM off x).map fun r => (r, H, nx) := rfl
@[simp] theorem quietK_faddr (off : Nat) : quietK (.faddr off) = true := rfl
@[simp] theorem evalQ_faddr (off : Nat) (ps : List PV) : evalQ Φ H nx (.faddr off) ps = (evalK Φ H nx (.faddr off) ps).map (·.1) := rfl
@[simp] theorem evalK_field (off : Nat) (agg : Bool) (n : Nat) (x : PV) : evalK Φ H nx (.field off agg n) [x] = (fieldM off agg n x).map fun r => (r, H, nx) := rfl
@[simp] theorem quietK_field (off : Nat) (agg : Bool) (n : Nat) : quietK (.field off agg n) = true := rfl
@[simp] theorem evalQ_field (off : Nat) (agg : Bool) (n : Nat) (ps : List PV) : evalQ Φ H nx (.field off agg n) ps = (evalK Φ H nx (.field off agg n) ps).map (·.1) := rfl
@[simp] theorem evalK_iaddr (z : Nat) (x : PV) (i : PV) : evalK Φ H nx (.iaddr z) [x, i] = (iaddrM z x i).map fun r => (r, H, nx) := rfl
@[simp] theorem quietK_iaddr (z : Nat) : quietK (.iaddr z) = true := rfl
@[simp] theorem evalQ_iaddr (z : Nat) (ps : List PV) : evalQ Φ H nx (.iaddr z) ps = (evalK Φ H nx (.iaddr z) ps).map (·.1) := rfl
@[simp] theorem evalK_aaddr (n z : Nat) (x : PV) (i : PV) : evalK Φ H nx (.aaddr n z) [x, i] = (aaddrM n z x i).map fun r => (r, H, nx) := rfl
@[simp] theorem quietK_aaddr (n z : Nat) : quietK (.aaddr n z) = true := rfl
@[simp] theorem evalQ_aaddr (n z : Nat) (ps : List PV) : evalQ Φ H nx (.aaddr n z) ps = (evalK Φ H nx (.aaddr n z) ps).map (·.1) := rfl
@[simp] theorem evalK_index  (x : PV) (i : PV) : evalK Φ H nx .index [x, i] = (indexM x i).map fun r => (r, H, nx) := rfl
@[simp] theorem quietK_index  : quietK .index = true := rfl
@[simp] theorem evalQ_index  (ps : List PV) : evalQ Φ H nx .index ps = (evalK Φ H nx .index ps).map (·.1) := rfl
@[simp] theorem evalK_slstr00  (x : PV) : evalK Φ H nx (.slstr false false) [x] = (slstrM x none none).map fun r => (r, H, nx) := rfl
@[simp] theorem quietK_slstr00  : quietK (.slstr false false) = true := rfl
@[simp] theorem evalQ_slstr00  (ps : List PV) : evalQ Φ H nx (.slstr false false) ps = (evalK Φ H nx (.slstr false false) ps).map (·.1) := rfl
@[simp] theorem evalK_slstr10  (x : PV) (i : PV) : evalK Φ H nx (.slstr true false) [x, i] = (slstrM x (some i) none).map fun r => (r, H, nx) := rfl
@[simp] theorem quietK_slstr10  : quietK (.slstr true false) = true := rfl
@[simp] theorem evalQ_slstr10  (ps : List PV) : evalQ Φ H nx (.slstr true false) ps = (evalK Φ H nx (.slstr true false) ps).map (·.1) := rfl
@[simp] theorem evalK_slstr01  (x : PV) (i : PV) : evalK Φ H nx (.slstr false true) [x, i] = (slstrM x none (some i)).map fun r => (r, H, nx) := rfl
@[simp] theorem quietK_slstr01  : quietK (.slstr false true) = true := rfl
@[simp] theorem evalQ_slstr01  (ps : List PV) : evalQ Φ H nx (.slstr false true) ps = (evalK Φ H nx (.slstr false true) ps).map (·.1) := rfl
@[simp] theorem evalK_slstr11  (x : PV) (i : PV) (j : PV) : evalK Φ H nx (.slstr true true) [x, i, j] = (slstrM x (some i) (some j)).map fun r => (r, H, nx) := rfl
@[simp] theorem quietK_slstr11  : quietK (.slstr true true) = true := rfl
@[simp] theorem evalQ_slstr11  (ps : List PV) : evalQ Φ H nx (.slstr true true) ps = (evalK Φ H nx (.slstr true true) ps).map (·.1) := rfl
@[simp] theorem evalK_slice00 (z : Nat) (x : PV) : evalK Φ H nx (.slice z false false) [x] = (sliceM z x none none).map fun r => (r, H, nx) := rfl
@[simp] theorem quietK_slice00 (z : Nat) : quietK (.slice z false false) = true := rfl
@[simp] theorem evalQ_slice00 (z : Nat) (ps : List PV) : evalQ Φ H nx (.slice z false false) ps = (evalK Φ H nx (.slice z false false) ps).map (·.1) := rfl
@[simp] theorem evalK_slice10 (z : Nat) (x : PV) (i : PV) : evalK Φ H nx (.slice z true false) [x, i] = (sliceM z x (some i) none).map fun r => (r, H, nx) := rfl
@[simp] theorem quietK_slice10 (z : Nat) : quietK (.slice z true false) = true := rfl
@[simp] theorem evalQ_slice10 (z : Nat) (ps : List PV) : evalQ Φ H nx (.slice z true false) ps = (evalK Φ H nx (.slice z true false) ps).map (·.1) := rfl
@[simp] theorem evalK_slice01 (z : Nat) (x : PV) (i : PV) : evalK Φ H nx (.slice z false true) [x, i] = (sliceM z x none (some i)).map fun r => (r, H, nx) := rfl
@[simp] theorem quietK_slice01 (z : Nat) : quietK (.slice z false true) = true := rfl
@[simp] theorem evalQ_slice01 (z : Nat) (ps : List PV) : evalQ Φ H nx (.slice z false true) ps = (evalK Φ H nx (.slice z false true) ps).map (·.1) := rfl
@[simp] theorem evalK_slice11 (z : Nat) (x : PV) (i : PV) (j : PV) : evalK Φ H nx (.slice z true true) [x, i, j] = (sliceM z x (some i) (some j)).map fun r => (r, H, nx) := rfl
@[simp] theorem quietK_slice11 (z : Nat) : quietK (.slice z true true) = true := rfl
@[simp] theorem evalQ_slice11 (z : Nat) (ps : List PV) : evalQ Φ H nx (.slice z true true) ps = (evalK Φ H nx (.slice z true true) ps).map (·.1) := rfl
@[simp] theorem evalK_ext (n : Nat) (x : PV) : evalK Φ H nx (.ext n) [x] = (extractV x n).map fun r => (r, H, nx) := rfl
@[simp] theorem quietK_ext (n : Nat) : quietK (.ext n) = true := rfl
@[simp] theorem evalQ_ext (n : Nat) (ps : List PV) : evalQ Φ H nx (.ext n) ps = (evalK Φ H nx (.ext n) ps).map (·.1) := rfl
@[simp] theorem evalK_chk  (x : PV) : evalK Φ H nx .chk [x] = (chkM x).map fun r => (r, H, nx) := rfl
@[simp] theorem quietK_chk  : quietK .chk = true := rfl
@[simp] theorem evalQ_chk  (ps : List PV) : evalQ Φ H nx .chk ps = (evalK Φ H nx .chk ps).map (·.1) := rfl
@[simp] theorem evalK_lenstr  (x : PV) : evalK Φ H nx .lenstr [x] = (lenstrM x).map fun r => (r, H, nx) := rfl
@[simp] theorem quietK_lenstr  : quietK .lenstr = true := rfl
@[simp] theorem evalQ_lenstr  (ps : List PV) : evalQ Φ H nx .lenstr ps = (evalK Φ H nx .lenstr ps).map (·.1) := rfl
@[simp] theorem evalK_lensl  (x : PV) : evalK Φ H nx .lensl [x] = (lenslM x).map fun r => (r, H, nx) := rfl
@[simp] theorem quietK_lensl  : quietK .lensl = true := rfl
@[simp] theorem evalQ_lensl  (ps : List PV) : evalQ Φ H nx .lensl ps = (evalK Φ H nx .lensl ps).map (·.1) := rfl
@[simp] theorem evalK_min  (x : PV) (i : PV) : evalK Φ H nx .min [x, i] = (minV x i).map fun r => (r, H, nx) := rfl
@[simp] theorem quietK_min  : quietK .min = true := rfl
@[simp] theorem evalQ_min  (ps : List PV) : evalQ Φ H nx .min ps = (evalK Φ H nx .min ps).map (·.1) := rfl
@[simp] theorem evalK_max  (x : PV) (i : PV) : evalK Φ H nx .max [x, i] = (maxV x i).map fun r => (r, H, nx) := rfl
@[simp] theorem quietK_max  : quietK .max = true := rfl
@[simp] theorem evalQ_max  (ps : List PV) : evalQ Φ H nx .max ps = (evalK Φ H nx .max ps).map (·.1) := rfl
@[simp] theorem evalK_store (n : Nat) (x : PV) (i : PV) : evalK Φ H nx (.store n) [x, i] = (storeM n H x i).map fun H' => (.t (.v undef), H', nx) := rfl
@[simp] theorem quietK_store (n : Nat) : quietK (.store n) = false := rfl
@[simp] theorem evalK_make (e n b : Nat) (zc : List Value) (x : PV) (i : PV) : evalK Φ H nx (.make e n b zc) [x, i] = (makeM e n b zc x i nx).map fun q => (q.1, (nx, q.2) :: H, nx + 1) := rfl
@[simp] theorem quietK_make (e n b : Nat) (zc : List Value) : quietK (.make e n b zc) = false := rfl
@[simp] theorem evalK_bslice (e n : Nat) (zc : List Value) (len : Nat) (idx : List Nat) (ps : List PV) : evalK Φ H nx (.bslice e n zc len idx) ps = (bsliceM e n zc len (idx.zip ps) nx).map fun q => (q.1, (nx, q.2) :: H, nx + 1) := rfl
@[simp] theorem quietK_bslice (e n : Nat) (zc : List Value) (len : Nat) (idx : List Nat)  : quietK (.bslice e n zc len idx) = false := rfl
@[simp] theorem evalK_build (places : List (Nat × Nat)) (zc : List Value) (idx : List Nat) (ps : List PV) : evalK Φ H nx (.build places zc idx) ps = (fillP (fun k => places[k]?) (zc.map fun x => .t (.v x)) (idx.zip ps)).map fun cs => (agOf cs, H, nx) := rfl
@[simp] theorem quietK_build (places : List (Nat × Nat)) (zc : List Value) (idx : List Nat)  : quietK (.build places zc idx) = true := rfl
@[simp] theorem evalQ_build (places : List (Nat × Nat)) (zc : List Value) (idx : List Nat)  (ps : List PV) : evalQ Φ H nx (.build places zc idx) ps = (evalK Φ H nx (.build places zc idx) ps).map (·.1) := rfl
@[simp] theorem evalK_barr (n : Nat) (zc : List Value) (idx : List Nat) (ps : List PV) : evalK Φ H nx (.barr n zc idx) ps = (fillP (fun k => some (k * n, n)) (zc.map fun x => .t (.v x)) (idx.zip ps)).map fun cs => (agOf cs, H, nx) := rfl
@[simp] theorem quietK_barr (n : Nat) (zc : List Value) (idx : List Nat)  : quietK (.barr n zc idx) = true := rfl
@[simp] theorem evalQ_barr (n : Nat) (zc : List Value) (idx : List Nat)  (ps : List PV) : evalQ Φ H nx (.barr n zc idx) ps = (evalK Φ H nx (.barr n zc idx) ps).map (·.1) := rfl
@[simp] theorem evalK_box (t : Nat) (x : PV) : evalK Φ H nx (.box t) [x] = (cellsP x).map fun ps => (.ptr nx 0, (nx, .cells t ps) :: H, nx + 1) := rfl
@[simp] theorem quietK_box (t : Nat) : quietK (.box t) = false := rfl
@[simp] theorem evalK_alloc (t : Nat) (zc : List Value)  : evalK Φ H nx (.alloc t zc) [] = some (.ptr nx 0, (nx, .cells t (zc.map fun x => .t (.v x))) :: H, nx + 1) := rfl
@[simp] theorem quietK_alloc (t : Nat) (zc : List Value) : quietK (.alloc t zc) = false := rfl
@[simp] theorem evalK_app (e z b : Nat) (x : PV) (i : PV) : evalK Φ H nx (.app e z b) [x, i] = appM e z b H nx x i := rfl
@[simp] theorem quietK_app (e z b : Nat) : quietK (.app e z b) = false := rfl
@[simp] theorem quietK_bin (isB : Bool) (op : BinOp) (nk : Option NK) : quietK (.bin isB op nk) = true := rfl
@[simp] theorem evalQ_bin (isB : Bool) (op : BinOp) (nk : Option NK) (ps : List PV) : evalQ Φ H nx (.bin isB op nk) ps = (evalK Φ H nx (.bin isB op nk) ps).map (·.1) := rfl
@[simp] theorem quietK_pick  : quietK .pick = true := rfl
@[simp] theorem evalQ_pick  (ps : List PV) : evalQ Φ H nx .pick ps = (evalK Φ H nx .pick ps).map (·.1) := rfl
@[simp] theorem quietK_call (f : Nat) : quietK (.call f) = true := rfl
@[simp] theorem evalK_pick (t : Bool) (a b : PV) : evalK Φ H nx .pick [.t (.v (.bool t)), a, b] = some (bif t then a else b, H, nx) := rfl
@[simp] theorem evalK_add (isB : Bool) (nk : Option NK) (k : IntKind) (a b : Int) : evalK Φ H nx (.bin isB .add nk) [.t (.v (.int k a)), .t (.v (.int k b))] = some (.t (.v (.int k (k.wrap (a + b)))), H, nx) := by simp [evalK, binM]
@[simp] theorem evalK_sub (isB : Bool) (nk : Option NK) (k : IntKind) (a b : Int) : evalK Φ H nx (.bin isB .sub nk) [.t (.v (.int k a)), .t (.v (.int k b))] = some (.t (.v (.int k (k.wrap (a - b)))), H, nx) := by simp [evalK, binM]
@[simp] theorem evalK_mul (isB : Bool) (nk : Option NK) (k : IntKind) (a b : Int) : evalK Φ H nx (.bin isB .mul nk) [.t (.v (.int k a)), .t (.v (.int k b))] = some (.t (.v (.int k (k.wrap (a * b)))), H, nx) := by simp [evalK, binM]
@[simp] theorem evalK_and (isB : Bool) (nk : Option NK) (k : IntKind) (a b : Int) : evalK Φ H nx (.bin isB .and nk) [.t (.v (.int k a)), .t (.v (.int k b))] = some (.t (.v (.int k (k.wrap (BitVec.ofInt k.bits a &&& BitVec.ofInt k.bits b).toNat))), H, nx) := by simp [evalK, binM]
@[simp] theorem evalK_or (isB : Bool) (nk : Option NK) (k : IntKind) (a b : Int) : evalK Φ H nx (.bin isB .or nk) [.t (.v (.int k a)), .t (.v (.int k b))] = some (.t (.v (.int k (k.wrap (BitVec.ofInt k.bits a ||| BitVec.ofInt k.bits b).toNat))), H, nx) := by simp [evalK, binM]
@[simp] theorem evalK_xor (isB : Bool) (nk : Option NK) (k : IntKind) (a b : Int) : evalK Φ H nx (.bin isB .xor nk) [.t (.v (.int k a)), .t (.v (.int k b))] = some (.t (.v (.int k (k.wrap (BitVec.ofInt k.bits a ^^^ BitVec.ofInt k.bits b).toNat))), H, nx) := by simp [evalK, binM]
@[simp] theorem evalK_andNot (isB : Bool) (nk : Option NK) (k : IntKind) (a b : Int) : evalK Φ H nx (.bin isB .andNot nk) [.t (.v (.int k a)), .t (.v (.int k b))] = some (.t (.v (.int k (k.wrap (BitVec.ofInt k.bits a &&& ~~~ (BitVec.ofInt k.bits b)).toNat))), H, nx) := by simp [evalK, binM]
@[simp] theorem evalK_eql (isB : Bool) (nk : Option NK) (k : IntKind) (a b : Int) : evalK Φ H nx (.bin isB .eql nk) [.t (.v (.int k a)), .t (.v (.int k b))] = some (.t (.v (.bool (a == b))), H, nx) := by simp [evalK, binM]
@[simp] theorem evalK_neq (isB : Bool) (nk : Option NK) (k : IntKind) (a b : Int) : evalK Φ H nx (.bin isB .neq nk) [.t (.v (.int k a)), .t (.v (.int k b))] = some (.t (.v (.bool (a != b))), H, nx) := by simp [evalK, binM]
@[simp] theorem evalK_lss (isB : Bool) (nk : Option NK) (k : IntKind) (a b : Int) : evalK Φ H nx (.bin isB .lss nk) [.t (.v (.int k a)), .t (.v (.int k b))] = some (.t (.v (.bool (decide (a < b)))), H, nx) := by simp [evalK, binM]
@[simp] theorem evalK_leq (isB : Bool) (nk : Option NK) (k : IntKind) (a b : Int) : evalK Φ H nx (.bin isB .leq nk) [.t (.v (.int k a)), .t (.v (.int k b))] = some (.t (.v (.bool (decide (a ≤ b)))), H, nx) := by simp [evalK, binM]
@[simp] theorem evalK_gtr (isB : Bool) (nk : Option NK) (k : IntKind) (a b : Int) : evalK Φ H nx (.bin isB .gtr nk) [.t (.v (.int k a)), .t (.v (.int k b))] = some (.t (.v (.bool (decide (b < a)))), H, nx) := by simp [evalK, binM]
@[simp] theorem evalK_geq (isB : Bool) (nk : Option NK) (k : IntKind) (a b : Int) : evalK Φ H nx (.bin isB .geq nk) [.t (.v (.int k a)), .t (.v (.int k b))] = some (.t (.v (.bool (decide (b ≤ a)))), H, nx) := by simp [evalK, binM]
@[simp] theorem evalK_quo (isB : Bool) (nk : Option NK) (k : IntKind) (a b : Int) (h : ¬ b = 0) : evalK Φ H nx (.bin isB .quo nk) [.t (.v (.int k a)), .t (.v (.int k b))] = some (.t (.v (.int k (k.wrap (a.tdiv b)))), H, nx) := by simp [evalK, binM, h]
@[simp] theorem evalK_rem (isB : Bool) (nk : Option NK) (k : IntKind) (a b : Int) (h : ¬ b = 0) : evalK Φ H nx (.bin isB .rem nk) [.t (.v (.int k a)), .t (.v (.int k b))] = some (.t (.v (.int k (a.tmod b))), H, nx) := by simp [evalK, binM, h]
@[simp] theorem evalK_shl (isB : Bool) (nk : Option NK) (k k' : IntKind) (a b : Int) (h : ¬ b < 0) : evalK Φ H nx (.bin isB .shl nk) [.t (.v (.int k a)), .t (.v (.int k' b))] = some (.t (.v (.int k (k.wrap (a * 2 ^ (min b.toNat k.bits))))), H, nx) := by simp [evalK, binM, h]
@[simp] theorem evalK_shr (isB : Bool) (nk : Option NK) (k k' : IntKind) (a b : Int) (h : ¬ b < 0) : evalK Φ H nx (.bin isB .shr nk) [.t (.v (.int k a)), .t (.v (.int k' b))] = some (.t (.v (.int k (a.fdiv (2 ^ (min b.toNat k.bits))))), H, nx) := by simp [evalK, binM, h]
@[simp] theorem evalK_seql (isB : Bool) (nk : Option NK) (a b : ByteArray) : evalK Φ H nx (.bin isB .eql nk) [.t (.v (.string a)), .t (.v (.string b))] = some (.t (.v (.bool (a.toList == b.toList))), H, nx) := rfl
@[simp] theorem evalK_sneq (isB : Bool) (nk : Option NK) (a b : ByteArray) : evalK Φ H nx (.bin isB .neq nk) [.t (.v (.string a)), .t (.v (.string b))] = some (.t (.v (.bool (!(a.toList == b.toList)))), H, nx) := rfl
@[simp] theorem evalK_beql (nk : Option NK) (a b : Bool) : evalK Φ H nx (.bin true .eql nk) [.t (.v (.bool a)), .t (.v (.bool b))] = some (.t (.v (.bool (a == b))), H, nx) := rfl
@[simp] theorem evalK_bneq (nk : Option NK) (a b : Bool) : evalK Φ H nx (.bin true .neq nk) [.t (.v (.bool a)), .t (.v (.bool b))] = some (.t (.v (.bool (!(a == b)))), H, nx) := rfl
@[simp] theorem evalK_call (f : Nat) (ps : List PV) : evalK Φ H nx (.call f) ps = (toTs H ps).bind fun q => (Φ f q.1).map fun r => (.t r, if q.2.isEmpty then H else if plainT r then H else remAll H q.2, nx) := by
  simp only [evalK]
  cases toTs H ps with
  | none => rfl
  | some q => obtain ⟨a, b⟩ := q; simp only [Option.bind_some]; cases Φ f a <;> rfl
@[simp] theorem evalQ_call (f : Nat) (ps : List PV) : evalQ Φ H nx (.call f) ps = (toTs H ps).bind fun q => (Φ f q.1).bind fun r => if q.2.isEmpty || plainT r then some (.t r) else none := by
  simp only [evalQ, quietK, if_true]
  cases toTs H ps with
  | none => rfl
  | some q => obtain ⟨a, b⟩ := q; simp only [Option.bind_some]; cases Φ f a <;> rfl
@[simp] theorem evalK_tslice (e n : Nat) (zc : List Value) (len : Nat) (idx : List Nat) (ps : List PV) : evalK Φ H nx (.tslice e n zc len idx) ps = (tsliceM e n zc len (idx.zip ps)).map fun r => (r, H, nx) := rfl
@[simp] theorem quietK_tslice (e n : Nat) (zc : List Value) (len : Nat) (idx : List Nat) : quietK (.tslice e n zc len idx) = true := rfl
@[simp] theorem evalQ_tslice (e n : Nat) (zc : List Value) (len : Nat) (idx : List Nat) (ps : List PV) : evalQ Φ H nx (.tslice e n zc len idx) ps = (evalK Φ H nx (.tslice e n zc len idx) ps).map (·.1) := rfl
@[simp] theorem evalK_hcall (f : Nat) (ps : List PV) : evalK Φ H nx (.hcall f) ps = Φ.h f ps H nx := rfl
@[simp] theorem quietK_hcall (f : Nat) : quietK (.hcall f) = false := rfl
@[simp] theorem evalK_callv (f : Nat) (ps : List PV) : evalK Φ H nx .callv (.t (.v (.func (.func f) #[] #[])) :: ps) = Φ.h f ps H nx := rfl
@[simp] theorem evalK_callf (f : Nat) (first cap ps : List PV) : evalK Φ H nx .callv (.fn (.func f) first cap :: ps) = Φ.h f (first ++ ps ++ cap) H nx := rfl
@[simp] theorem quietK_callv : quietK .callv = false := rfl
@[simp] theorem ifSome_bind {α β : Type} (x : Option α) (f : α → Option β) (K : β → Prop) : ifSome (x.bind f) K = ifSome x fun a => ifSome (f a) K := by cases x <;> rfl
end
@[simp] theorem plainT_v (x : Value) : plainT (.v x) = true := rfl
@[simp] theorem plainT_sl (n : Nat) (cs : List T) : plainT (.sl n cs) = false := rfl
@[simp] theorem plainT_pt (cs : List T) : plainT (.pt cs) = false := rfl
@[simp] theorem look_nil {α : Type} (k : Nat) : look ([] : List (Nat × α)) k = none := rfl
@[simp] theorem look_cons {α : Type} (k j : Nat) (x : α) (r : List (Nat × α)) : look ((k, x) :: r) j = if k = j then some x else look r j := rfl
@[simp] theorem allT_map_t (ts : List T) : allT (ts.map PV.t) = some ts := by
  induction ts with
  | nil => rfl
  | cons x r ih => simp [ih]

section
variable {Φ : Oracle} {env : List (Nat × PV)} {H : Heap} {nx n : Nat} {K : AState → Prop} {Q : Exit → AState → Prop} {d : Option Nat} {k : MK} {xs : List Opd} {r : List Mini}

@[simp] theorem set_some (j : Nat) (p : PV) (H' : Heap) (nx' : Nat) : AState.set ⟨env, H, nx, n⟩ (some j) (p, H', nx') = ⟨(j, p) :: env, H', nx', n⟩ := rfl
@[simp] theorem set_none (p : PV) (H' : Heap) (nx' : Nat) : AState.set ⟨env, H, nx, n⟩ none (p, H', nx') = ⟨env, H', nx', n⟩ := rfl

@[simp] theorem runsL_nil {s : AState} : runsL Φ [] s K = K s := rfl
@[simp] theorem runsL_cons : runsL Φ (⟨d, k, xs, none⟩ :: r) ⟨env, H, nx, n⟩ K = ifSome (evalK Φ H nx k (xs.map (·.ev env))) fun q => runsL Φ r (AState.set ⟨env, H, nx, n⟩ d q) K := rfl
@[simp] theorem runsL_yes {g : Nat} {want : Bool} (h : look env g = some (.t (.v (.bool want)))) :
    runsL Φ (⟨d, k, xs, some (g, want)⟩ :: r) ⟨env, H, nx, n⟩ K = ifSome (evalK Φ H nx k (xs.map (·.ev env))) fun q => runsL Φ r (AState.set ⟨env, H, nx, n⟩ d q) K := by
  simp only [runsL, stepsM, Mini.wants, h, beq_self_eq_true, onWants_true]
theorem runsL_no {g : Nat} {want b : Bool} (h : look env g = some (.t (.v (.bool b)))) (hb : (b == want) = false) :
    runsL Φ (⟨d, k, xs, some (g, want)⟩ :: r) ⟨env, H, nx, n⟩ K = runsL Φ r (AState.set ⟨env, H, nx, n⟩ d (.t (.v undef), H, nx)) K := by
  simp only [runsL, stepsM, Mini.wants, h, hb, onWants_false]
@[simp] theorem runsL_no_t {g : Nat} (h : look env g = some (.t (.v (.bool false)))) :
    runsL Φ (⟨d, k, xs, some (g, true)⟩ :: r) ⟨env, H, nx, n⟩ K = runsL Φ r (AState.set ⟨env, H, nx, n⟩ d (.t (.v undef), H, nx)) K := runsL_no h rfl
@[simp] theorem runsL_no_f {g : Nat} (h : look env g = some (.t (.v (.bool true)))) :
    runsL Φ (⟨d, k, xs, some (g, false)⟩ :: r) ⟨env, H, nx, n⟩ K = runsL Φ r (AState.set ⟨env, H, nx, n⟩ d (.t (.v undef), H, nx)) K := runsL_no h rfl
@[simp] theorem runsL_no_u {g : Nat} {want : Bool} (h : look env g = some (.t (.v undef))) :
    runsL Φ (⟨d, k, xs, some (g, want)⟩ :: r) ⟨env, H, nx, n⟩ K = runsL Φ r (AState.set ⟨env, H, nx, n⟩ d (.t (.v undef), H, nx)) K := by
  simp only [runsL, stepsM, Mini.wants, h, undef, onWants_false]

@[simp] theorem runsD_nil {s : AState} : runsD Φ [] s K = K s := rfl
@[simp] theorem runsD_cons (hk : quietK k = true) : runsD Φ (⟨d, k, xs, none⟩ :: r) ⟨env, H, nx, n⟩ K = ifSome (evalQ Φ H nx k (xs.map (·.ev env))) fun v => runsD Φ r (AState.set ⟨env, H, nx, n⟩ d (v, H, nx)) K := by
  simp only [runsD, stepsD, hk, if_true, Mini.wants, onWants_true]
@[simp] theorem runsD_heavy (hk : quietK k = false) : runsD Φ (⟨d, k, xs, none⟩ :: r) ⟨env, H, nx, n⟩ K = ifSome (evalK Φ H nx k (xs.map (·.ev env))) fun q => runsD Φ r (AState.set ⟨env, H, nx, n⟩ d q) K := by
  simp only [runsD, stepsD, hk, Bool.false_eq_true, if_false, stepsM, Mini.wants, onWants_true]
@[simp] theorem runsD_yes {g : Nat} {want : Bool} (hk : quietK k = true) (h : look env g = some (.t (.v (.bool want)))) :
    runsD Φ (⟨d, k, xs, some (g, want)⟩ :: r) ⟨env, H, nx, n⟩ K = ifSome (evalQ Φ H nx k (xs.map (·.ev env))) fun v => runsD Φ r (AState.set ⟨env, H, nx, n⟩ d (v, H, nx)) K := by
  simp only [runsD, stepsD, hk, if_true, Mini.wants, h, beq_self_eq_true, onWants_true]
@[simp] theorem runsD_heavy_yes {g : Nat} {want : Bool} (hk : quietK k = false) (h : look env g = some (.t (.v (.bool want)))) :
    runsD Φ (⟨d, k, xs, some (g, want)⟩ :: r) ⟨env, H, nx, n⟩ K = ifSome (evalK Φ H nx k (xs.map (·.ev env))) fun q => runsD Φ r (AState.set ⟨env, H, nx, n⟩ d q) K := by
  simp only [runsD, stepsD, hk, Bool.false_eq_true, if_false, stepsM, Mini.wants, h, beq_self_eq_true, onWants_true]
theorem runsD_no {g : Nat} {want b : Bool} (h : look env g = some (.t (.v (.bool b)))) (hb : (b == want) = false) :
    runsD Φ (⟨d, k, xs, some (g, want)⟩ :: r) ⟨env, H, nx, n⟩ K = runsD Φ r (AState.set ⟨env, H, nx, n⟩ d (.t (.v undef), H, nx)) K := by
  simp only [runsD, stepsD, stepsM, Mini.wants, h, hb, onWants_false, ite_self]
@[simp] theorem runsD_no_t {g : Nat} (h : look env g = some (.t (.v (.bool false)))) :
    runsD Φ (⟨d, k, xs, some (g, true)⟩ :: r) ⟨env, H, nx, n⟩ K = runsD Φ r (AState.set ⟨env, H, nx, n⟩ d (.t (.v undef), H, nx)) K := runsD_no h rfl
@[simp] theorem runsD_no_f {g : Nat} (h : look env g = some (.t (.v (.bool true)))) :
    runsD Φ (⟨d, k, xs, some (g, false)⟩ :: r) ⟨env, H, nx, n⟩ K = runsD Φ r (AState.set ⟨env, H, nx, n⟩ d (.t (.v undef), H, nx)) K := runsD_no h rfl
@[simp] theorem runsD_no_u {g : Nat} {want : Bool} (h : look env g = some (.t (.v undef))) :
    runsD Φ (⟨d, k, xs, some (g, want)⟩ :: r) ⟨env, H, nx, n⟩ K = runsD Φ r (AState.set ⟨env, H, nx, n⟩ d (.t (.v undef), H, nx)) K := by
  simp only [runsD, stepsD, stepsM, Mini.wants, h, undef, onWants_false, ite_self]

variable {κ j b : Nat} {pd : Pend} {gr : List GI} {kp : Bool} {ag : List Nat}
@[simp] theorem agains_nil {C : Prop} : agains Φ pd H nx [] C = C := rfl
@[simp] theorem agains_cons {i : Nat} {r : List Nat} {C : Prop} : agains Φ pd H nx (i :: r) C = ifSome (look pd i) fun x => evalQ Φ H nx x.1 x.2.1 = some x.2.2 ∧ agains Φ pd H nx r C := rfl
@[simp] theorem keepG_true {m : Mini} {v : PV} : keepG true j m ⟨env, H, nx, n⟩ v pd = (j, m.k, m.xs.map (·.ev env), v) :: pd := rfl
@[simp] theorem keepG_false {m : Mini} {s : AState} {v : PV} : keepG false j m s v pd = pd := rfl
@[simp] theorem runsG_nil {s : AState} : runsG Φ κ j b pd [] s K = K s := rfl
@[simp] theorem runsG_cons (hk : quietK k = true) : runsG Φ κ j b pd (.o ⟨d, k, xs, none⟩ kp ag :: gr) ⟨env, H, nx, n⟩ K =
    ifSome (evalQ Φ H nx k (xs.map (·.ev env))) fun v => agains Φ pd H nx ag (runsG Φ κ (j + 1) b (keepG kp j ⟨d, k, xs, none⟩ ⟨env, H, nx, n⟩ v pd) gr (AState.set ⟨env, H, nx, n⟩ d (v, H, nx)) K) := by
  simp only [runsG, valD, hk, if_true, valQ, Mini.wants, ifSome_map]
@[simp] theorem runsG_heavy (hk : quietK k = false) : runsG Φ κ j b pd (.o ⟨d, k, xs, none⟩ kp ag :: gr) ⟨env, H, nx, n⟩ K =
    ifSome (evalK Φ H nx k (xs.map (·.ev env))) fun q => agains Φ pd q.2.1 q.2.2 ag (runsG Φ κ (j + 1) b (keepG kp j ⟨d, k, xs, none⟩ ⟨env, H, nx, n⟩ q.1 pd) gr (AState.set ⟨env, H, nx, n⟩ d q) K) := by
  simp only [runsG, valD, hk, Bool.false_eq_true, if_false, Mini.wants]
@[simp] theorem runsG_first {m : Mini} : runsG Φ κ j b pd (.g 0 m :: gr) ⟨env, H, nx, n⟩ K =
    ifSome (evalK Φ H (nx + κ) m.k (m.xs.map (·.ev env))) fun q => runsG Φ κ (j + 1) nx pd gr (AState.set ⟨env, H, nx, n⟩ m.dst (q.1, q.2.1, nx + 2 * κ)) K := rfl
@[simp] theorem runsG_more {m : Mini} {i : Nat} (hi : i ≠ 0) : runsG Φ κ j b pd (.g i m :: gr) ⟨env, H, nx, n⟩ K =
    ifSome (evalK Φ H (b + κ + i) m.k (m.xs.map (·.ev env))) fun q => runsG Φ κ (j + 1) b pd gr (AState.set ⟨env, H, nx, n⟩ m.dst (q.1, q.2.1, b + 2 * κ)) K := by
  simp only [runsG, if_neg hi]
@[simp] theorem runsM_drawG {l : List GI} : runsM Φ (.drawG κ l) ⟨env, H, nx, n⟩ Q = runsG Φ κ 0 0 [] l ⟨env, H, nx, n⟩ (Q .normal) := rfl

@[simp] theorem runsM_skip {s : AState} : runsM Φ .skip s Q = Q .normal s := rfl
@[simp] theorem runsM_ops {l : List Mini} : runsM Φ (.ops l) ⟨env, H, nx, n⟩ Q = runsL Φ l ⟨env, H, nx, n⟩ (Q .normal) := rfl
@[simp] theorem runsM_draw {l : List Mini} : runsM Φ (.draw l) ⟨env, H, nx, n⟩ Q = runsD Φ l ⟨env, H, nx, n⟩ (Q .normal) := rfl
@[simp] theorem runsM_seq {a b : MCode} : runsM Φ (.seq a b) ⟨env, H, nx, n⟩ Q = runsM Φ a ⟨env, H, nx, n⟩ (onNormal (fun s1 => runsM Φ b s1 Q) Q) := rfl
@[simp] theorem runsM_true {c : Opd} {a b : MCode} (h : c.ev env = .t (.v (.bool true))) : runsM Φ (.cond c a b) ⟨env, H, nx, n⟩ Q = runsM Φ a ⟨env, H, nx, n⟩ Q := by simp only [runsM, h, onBool_true]
@[simp] theorem runsM_false {c : Opd} {a b : MCode} (h : c.ev env = .t (.v (.bool false))) : runsM Φ (.cond c a b) ⟨env, H, nx, n⟩ Q = runsM Φ b ⟨env, H, nx, n⟩ Q := by simp only [runsM, h, onBool_false]
@[simp] theorem runsM_block {i : Nat} {a : MCode} : runsM Φ (.block i a) ⟨env, H, nx, n⟩ Q = runsM Φ a ⟨env, H, nx, n⟩ (InBlock i Q) := rfl
@[simp] theorem runsM_exit {i : Nat} {s : AState} : runsM Φ (.exit i) s Q = Q (.exit i) s := rfl
@[simp] theorem runsM_scope {a : MCode} : runsM Φ (.scope a) ⟨env, H, nx, n⟩ Q = runsM Φ a ⟨env, H, nx, n⟩ (NoGoto Q) := rfl
@[simp] theorem runsM_ret {s : AState} : runsM Φ .ret s Q = Q .ret s := rfl
@[simp] theorem endM_mk {vs : List RV} {R : T → Prop} : endM vs R ⟨env, H, nx, n⟩ = ifSome (resM ⟨env, H, nx, n⟩ vs) fun ps => ifSome (toT H (oneOf ps)) fun q => R q.1 := rfl
end
end Go.Abs
