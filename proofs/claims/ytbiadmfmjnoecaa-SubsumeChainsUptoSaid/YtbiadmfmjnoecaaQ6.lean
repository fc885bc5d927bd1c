/-
  Types by number and by name; features of declarations: what their functions return (a search is printed by gen14.py).
  The features of declarations, and the types that introduce them: what their functions return.
  Declared types have codes of their own, and are found by their names. Plain; no walk stands here.
  The declarations of features: what the function that checks them returns.
-/
import Derived.Test.YtbiadmfmjnoecaaQ5
namespace Go.Proofs.Ytbiadmfmjnoecaa
set_option linter.unusedSimpArgs false
set_option linter.unusedVariables false
open Go Go.Abs
theorem ia_Co {t : T} {l : List Co} (h : IsS eCo t l) {i : Nat} {x : Co} (hx : l[i]? = some x) : iaddrM 2 (.t t) (.t (iv (i : Int))) = some (.t (.pt (sv x.name :: encB x.code :: rest eCo l i))) := h.iaddr hx .i64
theorem ia_TD {t : T} {l : List TD} (h : IsS eTD t l) {i : Nat} {x : TD} (hx : l[i]? = some x) : iaddrM 3 (.t t) (.t (iv (i : Int))) = some (.t (.pt (sv x.name :: x.supers :: x.feats :: rest eTD l i))) := h.iaddr hx .i64
theorem ia_FD {t : T} {l : List FD} (h : IsS eFD t l) {i : Nat} {x : FD} (hx : l[i]? = some x) : iaddrM 2 (.t t) (.t (iv (i : Int))) = some (.t (.pt (sv x.feat :: sv x.value :: rest eFD l i))) := h.iaddr hx .i64
theorem subs4_call {t : T} {l : List Co} (ht : IsS eCo t l) {i j : Nat} {x y : Co} (hx : l[i]? = some x) (hy : l[j]? = some y) (hxl : x.code.length ≤ 1000) (hyl : y.code.length ≤ 1000) :
  CallT Try.prog G 107 [t, iv (i : Int), iv (j : Int)] (· = bv (subL y.code x.code)) := by
 refine k_r04_Subsumes.runs ctx17 rfl ?_
 have i1 := ia_Co ht hx
 have i2 := ia_Co ht hy
 have gs : gB2 fSub [encB y.code, encB x.code] = some (bv (subL y.code x.code)) := gB2_eq (decB_encB _) (decB_encB _) hyl hxl
 simp -implicitDefEqProofs [M_r04_Subsumes, i1, i2, loadM, tb17, gs]
def coIdx (l : List Co) (s : Str) : Nat := l.findIdx fun x => decide (x.name = s)
def numOf (l : List Co) (s : Str) : Int := if coIdx l s < l.length then (coIdx l s : Int) else -1
def S_r05_number (t : T) (s : Str) (j : Nat) : AState := ⟨[(5, .t (iv (j : Int))), (1, .t (sv s)), (0, .t t)], [], 0, 20⟩
theorem number_call {t : T} {l : List Co} (ht : IsS eCo t l) (s : Str) (hl : l.length ≤ cap) : CallT Try.prog G 109 [t, sv s] (· = iv (numOf l s)) := by
 unfold cap at hl
 refine k_r05_number.call rfl ?_
 unfold M_r05_number
 refine mc_seq_runs ctx0 ?_
 simp -implicitDefEqProofs
 obtain ⟨n, hn⟩ : ∃ n, n = l.findIdx fun x => decide (x.name = s) := ⟨_, rfl⟩
 have hle : n ≤ l.length := by rw [hn]; exact findIdx_le _ _
 have hres : numOf l s = if n < l.length then (n : Int) else -1 := by rw [hn]; rfl
 refine mc_cut (fun _ : Unit => S_r05_number t s l.length) (fun _ => n = l.length) (fun _ => rfl) ?_ ?_
 ·refine mc_seq_runs ctx0 ?_
  simp -implicitDefEqProofs
  refine mc_block ?_
  refine mc_for (S_r05_number t s) n (fun _ => rfl) ?_ rfl ?_ ?_
  ·refine sub_forget rfl rfl ?_ ?_ <;> simp -implicitDefEqProofs [S_r05_number]
  ·intro j hj
   refine mc_runs ctx0 ?_
   have hjl : j < l.length := by omega
   obtain ⟨x, hx⟩ : ∃ x, l[j]? = some x := ⟨_, List.getElem?_eq_getElem hjl⟩
   have hp := findIdx_not (p := fun x => decide (x.name = s)) (by rw [← hn]; exact hj) hx
   have e1 : IntKind.i64.wrap ((j : Int) + 1) = ((j + 1 : Nat) : Int) := wrap_nat (by omega) (by omega)
   have ia := ht.iaddr hx .i64
   simp only [eCo, List.cons_append, List.nil_append] at ia
   have hp : ¬ x.name = s := by simpa using hp
   simp -implicitDefEqProofs [S_r05_number, hjl, ht.len, ia, loadM, e1, str_beq, hp]
   refine sub_forget rfl rfl ?_ ?_ <;> simp -implicitDefEqProofs
  ·refine mc_runs ctx0 ?_
   by_cases e : n = l.length
   ·have hnl : ¬ n < l.length := by omega
    simp -implicitDefEqProofs [S_r05_number, ht.len, hnl]
    exact Next.mk () (by first | exact trivial | exact e) (sub_forget rfl rfl (by simp -implicitDefEqProofs [e]) (by simp -implicitDefEqProofs))
   ·have hjl : n < l.length := by omega
    obtain ⟨x, hx, hp⟩ := findIdx_hit (p := fun x => decide (x.name = s)) (l := l) (by rw [← hn]; exact hjl)
    rw [← hn] at hx
    have ia := ht.iaddr hx .i64
    simp only [eCo, List.cons_append, List.nil_append] at ia
    have hp : x.name = s := by simpa using hp
    simp -implicitDefEqProofs [S_r05_number, hjl, ht.len, ia, loadM, str_beq, hp]
    rw [hres, if_pos hjl]
 ·rintro _ e
  refine mc_runs ctx0 ?_
  simp -implicitDefEqProofs [S_r05_number]
  rw [hres, if_neg (by omega)]
def coFind (l : List Co) (b : List W) : Int := if l.findIdx (fun x => x.code == b) < l.length then (l.findIdx (fun x => x.code == b) : Int) else -1
def S100 (t : T) (b : List W) (j : Nat) : AState := ⟨[(6, .t (iv (j : Int))), (5, .t (encB b)), (0, .t t)], [], 0, 23⟩
noncomputable def tb21 : Tbl := [(117, gRN), (118, gB2 fSame)]
theorem ctx21 : Ctx Try.prog G (orc tb21) := (TblOK.cons rnormal_ok (.cons (gB2_ok same_call) .nil)).ctx mixed
theorem find4_call {t u : T} {l : List Co} {b : List W} (ht : IsS eCo t l) (hl : l.length ≤ cap) (hs : ∀ x ∈ l, x.code.length ≤ 1000) (hu : decB u = some b) (hb : b.length ≤ 1000) : CallT Try.prog G 100 [t, u] (· = iv (coFind l (normL b))) := by
 unfold cap at hl
 have gn : gRN [u] = some (encB (normL b)) := by simp [gRN, hu, hb]
 have hnl : (normL b).length ≤ 1000 := Nat.le_trans (length_normL b) hb
 refine k_r04_Find.call rfl ?_
 unfold M_r04_Find
 refine mc_seq_runs ctx21 ?_
 simp -implicitDefEqProofs
 refine mc_seq_runs ctx21 ?_
 simp -implicitDefEqProofs [tb21, gn]
 obtain ⟨c, hc⟩ : ∃ c, c = normL b := ⟨_, rfl⟩
 rw [← hc] at hnl ⊢
 obtain ⟨n, hn⟩ : ∃ n, n = l.findIdx fun x => x.code == c := ⟨_, rfl⟩
 have hle : n ≤ l.length := by rw [hn]; exact findIdx_le _ _
 have hres : coFind l c = if n < l.length then (n : Int) else -1 := by rw [hn]; rfl
 refine mc_cut (fun _ : Unit => S100 t c l.length) (fun _ => n = l.length) (fun _ => rfl) ?_ ?_
 ·refine mc_seq_runs ctx21 ?_
  simp -implicitDefEqProofs
  refine mc_block ?_
  refine mc_for (S100 t c) n (fun _ => rfl) ?_ rfl ?_ ?_
  ·refine sub_forget rfl rfl ?_ ?_ <;> simp -implicitDefEqProofs [S100]
  ·intro j hj
   refine mc_runs ctx21 ?_
   have hjl : j < l.length := by omega
   obtain ⟨x, hx⟩ : ∃ x, l[j]? = some x := ⟨_, List.getElem?_eq_getElem hjl⟩
   have hp := findIdx_not (p := fun x : Co => x.code == c) (by rw [← hn]; exact hj) hx
   have gs := same_B x.code c (hs x (List.mem_of_getElem? hx)) hnl
   rw [hp] at gs
   have ia := ia_Co ht hx
   have e1 : IntKind.i64.wrap ((j : Int) + 1) = ((j + 1 : Nat) : Int) := wrap_nat (by omega) (by omega)
   simp -implicitDefEqProofs [S100, hjl, ht.len, ia, loadM, tb21, gs, e1]
   refine sub_forget rfl rfl ?_ ?_ <;> simp -implicitDefEqProofs
  ·refine mc_runs ctx21 ?_
   by_cases e : n = l.length
   ·have hnl' : ¬ n < l.length := by omega
    simp -implicitDefEqProofs [S100, ht.len, hnl']
    exact Next.mk () (by first | exact trivial | exact e) (sub_forget rfl rfl (by simp -implicitDefEqProofs [e]) (by simp -implicitDefEqProofs))
   ·have hjl : n < l.length := by omega
    obtain ⟨x, hx, hp⟩ := findIdx_hit (p := fun x : Co => x.code == c) (l := l) (by rw [← hn]; exact hjl)
    rw [← hn] at hx
    have gs := same_B x.code c (hs x (List.mem_of_getElem? hx)) hnl
    rw [hp] at gs
    have ia := ia_Co ht hx
    simp -implicitDefEqProofs [S100, hjl, ht.len, ia, loadM, tb21, gs]
    rw [hres, if_pos hjl]
 ·rintro _ e
  refine mc_runs ctx21 ?_
  simp -implicitDefEqProofs [S100]
  rw [hres, if_neg (by omega)]
noncomputable def fIdx (x : TD) (s : Str) : Nat := x.fs.findIdx fun f => decide (f.feat = s)
noncomputable def valT (x : TD) (s : Str) : T := match x.fs[fIdx x s]? with
 | some f => .tu [sv f.value, bv true]
 | none => .tu [sv emptyS, bv false]
def S121 (x : TD) (s : Str) (j : Nat) : AState := ⟨[(6, .t (iv (j : Int))), (2, .ptr 0 0), (1, .t (sv s))], [(0, .cells 123 [.t (sv x.name), .t x.supers, .t x.feats])], 1, 28⟩
theorem value_call {x : TD} (ok : x.OK) (s : Str) : CallT Try.prog G 121 [.ag [sv x.name, x.supers, x.feats], sv s] (· = valT x s) := by
 have hfl := ok.fsl
 unfold cap at hfl
 refine k_r05_value.call rfl ?_
 unfold M_r05_value
 refine mc_seq_runs ctx0 ?_
 simp -implicitDefEqProofs [cellsP]
 obtain ⟨n, hn⟩ : ∃ n, n = fIdx x s := ⟨_, rfl⟩
 have hle : n ≤ x.fs.length := by rw [hn]; exact findIdx_le _ _
 refine mc_cut (fun _ : Unit => S121 x s x.fs.length) (fun _ => n = x.fs.length) (fun _ => rfl) ?_ ?_
 ·refine mc_seq_runs ctx0 ?_
  simp -implicitDefEqProofs
  refine mc_block ?_
  refine mc_for (S121 x s) n (fun _ => rfl) ?_ rfl ?_ ?_
  ·refine sub_forget rfl rfl ?_ ?_ <;> simp -implicitDefEqProofs [S121]
  ·intro j hj
   refine mc_runs ctx0 ?_
   have hjl : j < x.fs.length := by omega
   obtain ⟨f, hf⟩ : ∃ f, x.fs[j]? = some f := ⟨_, List.getElem?_eq_getElem hjl⟩
   have hp : ¬ f.feat = s := by simpa using findIdx_not (p := fun f : FD => decide (f.feat = s)) (l := x.fs) (by rw [hn] at hj; exact hj) hf
   have ia := ia_FD ok.fs hf
   have e1 : IntKind.i64.wrap ((j : Int) + 1) = ((j + 1 : Nat) : Int) := wrap_nat (by omega) (by omega)
   simp -implicitDefEqProofs [S121, hjl, loadM, ok.fs.len, ia, str_beq, hp, e1]
   refine sub_forget rfl rfl ?_ ?_ <;> simp -implicitDefEqProofs
  ·refine mc_runs ctx0 ?_
   by_cases e : n = x.fs.length
   ·have hnl' : ¬ n < x.fs.length := by omega
    simp -implicitDefEqProofs [S121, loadM, ok.fs.len, hnl']
    exact Next.mk () (by first | exact trivial | exact e) (sub_forget rfl rfl (by simp -implicitDefEqProofs [e]) (by simp -implicitDefEqProofs))
   ·have hjl : n < x.fs.length := by omega
    obtain ⟨f, hf, hp⟩ := findIdx_hit (p := fun f : FD => decide (f.feat = s)) (l := x.fs) (by show fIdx x s < _; rw [← hn]; exact hjl)
    have hf : x.fs[n]? = some f := by rw [hn]; exact hf
    have hp : f.feat = s := by simpa using hp
    have ia := ia_FD ok.fs hf
    have hv : valT x s = .tu [sv f.value, bv true] := by unfold valT; rw [← hn, hf]
    simp -implicitDefEqProofs [S121, hjl, loadM, ok.fs.len, ia, str_beq, hp, hv]
 ·rintro _ e
  refine mc_runs ctx0 ?_
  have hv : valT x s = .tu [sv emptyS, bv false] := by
   unfold valT
   have : x.fs[fIdx x s]? = none := by rw [← hn, e]; simp
   rw [this]
  simp -implicitDefEqProofs [S121, hv]
noncomputable def fUp (x : TD) (out : List Str) (k : Nat) : List Str := (x.fs.take k).foldl (fun o f => put o f.feat) out
noncomputable def featsUp (d : List TD) (j : Nat) : List Str := (d.take j).foldl (fun o x => fUp x o x.fs.length) []
noncomputable def feats (d : List TD) : List Str := d.foldl (fun o x => fUp x o x.fs.length) []
theorem fUp_succ {x : TD} {out : List Str} {k : Nat} {f : FD} (h : x.fs[k]? = some f) : fUp x out (k + 1) = put (fUp x out k) f.feat := by
 unfold fUp
 rw [List.take_add_one, h]
 simp [List.foldl_append]
theorem featsUp_succ {d : List TD} {j : Nat} {x : TD} (h : d[j]? = some x) : featsUp d (j + 1) = fUp x (featsUp d j) x.fs.length := by
 unfold featsUp
 rw [List.take_add_one, h]
 simp [List.foldl_append]
theorem featsUp_all (d : List TD) : featsUp d d.length = feats d := by unfold featsUp feats; rw [List.take_length]
theorem length_fUp (x : TD) (out : List Str) : ∀ k, (fUp x out k).length ≤ out.length + k
 | 0 => by simp [fUp]
 | k + 1 => by
  have ih := length_fUp x out k
  cases h : x.fs[k]? with
  | none =>
   have : fUp x out (k + 1) = fUp x out k := by unfold fUp; rw [List.take_add_one, h]; simp
   rw [this]; omega
  | some f =>
   rw [fUp_succ h]
   have := length_put (fUp x out k) f.feat
   omega
theorem length_featsUp {d : List TD} (hf : ∀ x ∈ d, x.fs.length ≤ 256) : ∀ j, (featsUp d j).length ≤ 256 * j
 | 0 => by simp [featsUp]
 | j + 1 => by
  have ih := length_featsUp hf j
  cases h : d[j]? with
  | none =>
   have : featsUp d (j + 1) = featsUp d j := by unfold featsUp; rw [List.take_add_one, h]; simp
   rw [this]; omega
  | some x =>
   rw [featsUp_succ h]
   have h1 := length_fUp x (featsUp d j) x.fs.length
   have h2 := hf x (List.mem_of_getElem? h)
   omega
noncomputable def S98 (t : T) (d : List TD) (j : Nat) : AState := ⟨[(4, .t (iv (j : Int))), (3, .t (treeS eStr (featsUp d j))), (0, .t t)], [], 0, 34⟩
noncomputable def S98b (t : T) (x : TD) (out : List Str) (j k : Nat) : AState := ⟨[(5, .t (iv (k : Int))), (4, .t (iv (j : Int))), (3, .t (treeS eStr (fUp x out k))), (0, .t t)], [], 0, 34⟩
theorem feats_call {t : T} {d : List TD} (ht : IsS eTD t d) (hg : Good d) : CallT Try.prog G 98 [t] (· = treeS eStr (feats d)) := by
 have hdl := hg.len
 refine k_r05_feats.call rfl ?_
 unfold M_r05_feats
 refine mc_seq_runs ctx11 ?_
 simp -implicitDefEqProofs
 refine mc_seq_runs ctx11 ?_
 simp -implicitDefEqProofs
 refine mc_cut (fun _ : Unit => S98 t d d.length) (fun _ => True) (fun _ => rfl) ?_ ?_
 ·refine mc_seq_runs ctx11 ?_
  simp -implicitDefEqProofs
  refine mc_block ?_
  refine mc_for (S98 t d) d.length (fun _ => rfl) ?_ rfl ?_ ?_
  ·refine sub_forget rfl rfl ?_ ?_ <;> simp -implicitDefEqProofs [S98, featsUp, treeS]
  ·intro j hj
   obtain ⟨x, hx⟩ : ∃ x, d[j]? = some x := ⟨_, List.getElem?_eq_getElem hj⟩
   have ok := hg.ok.2 x (List.mem_of_getElem? hx)
   have hxl := hg.fsl x (List.mem_of_getElem? hx)
   have ia := ia_TD ht hx
   have hln := length_featsUp hg.fsl j
   refine mc_seq_runs ctx11 ?_
   simp -implicitDefEqProofs [S98, hj, ht.len]
   refine mc_cut (fun _ : Unit => S98b t x (featsUp d j) j x.fs.length) (fun _ => True) (fun _ => rfl) ?_ ?_
   ·refine mc_block ?_
    refine mc_seq_runs ctx11 ?_
    simp -implicitDefEqProofs
    refine mc_block ?_
    refine mc_for (S98b t x (featsUp d j) j) x.fs.length (fun _ => rfl) ?_ rfl ?_ ?_
    ·refine sub_forget rfl rfl ?_ ?_ <;> simp -implicitDefEqProofs [S98b, fUp]
    ·intro k hk
     refine mc_runs ctx11 ?_
     obtain ⟨f, hf⟩ : ∃ f, x.fs[k]? = some f := ⟨_, List.getElem?_eq_getElem hk⟩
     have ib := ia_FD ok.fs hf
     have hfl := length_fUp x (featsUp d j) k
     have gp := gPut_eq (IsS.tree eStr (fUp x (featsUp d j) k)) f.feat (by unfold cap; omega)
     rw [← fUp_succ hf] at gp
     have e1 : IntKind.i64.wrap ((k : Int) + 1) = ((k + 1 : Nat) : Int) := wrap_nat (by omega) (by omega)
     simp -implicitDefEqProofs [S98b, ia, loadM, ok.fs.len, hk, ib, tb11, gp, e1]
     refine sub_forget rfl rfl ?_ ?_ <;> simp -implicitDefEqProofs
    ·refine mc_runs ctx11 ?_
     simp -implicitDefEqProofs [S98b, ia, loadM, ok.fs.len]
     exact Next.mk () trivial (sub_forget rfl rfl (by simp -implicitDefEqProofs) (by simp -implicitDefEqProofs))
   ·rintro _ -
    refine mc_runs ctx11 ?_
    have e1 : IntKind.i64.wrap ((j : Int) + 1) = ((j + 1 : Nat) : Int) := wrap_nat (by omega) (by omega)
    have fs := featsUp_succ hx
    simp -implicitDefEqProofs [S98b, e1]
    refine sub_forget rfl rfl ?_ ?_ <;> simp -implicitDefEqProofs [fs]
  ·refine mc_runs ctx11 ?_
   simp -implicitDefEqProofs [S98, ht.len]
   exact Next.mk () trivial (sub_forget rfl rfl (by simp -implicitDefEqProofs) (by simp -implicitDefEqProofs))
 ·rintro _ -
  refine mc_runs ctx11 ?_
  simp -implicitDefEqProofs [S98, featsUp_all]
noncomputable def hasF (x : TD) (s : Str) : Bool := decide (fIdx x s < x.fs.length)
noncomputable def valOf (x : TD) (s : Str) : Str := ((x.fs[fIdx x s]?).map FD.value).getD emptyS
theorem valT_eq (x : TD) (s : Str) : valT x s = .tu [sv (valOf x s), bv (hasF x s)] := by
 unfold valT valOf hasF
 by_cases h : fIdx x s < x.fs.length
 ·rw [List.getElem?_eq_getElem h, decide_eq_true h]; rfl
 ·have : x.fs[fIdx x s]? = none := by simp; omega
  rw [this, decide_eq_false h]; rfl
noncomputable def usersUp (d : List TD) (s : Str) : Nat → List Str
 | 0 => []
 | j + 1 => match d[j]? with
  | some x => if hasF x s then put (usersUp d s j) x.name else usersUp d s j
  | none => usersUp d s j
theorem length_usersUp (d : List TD) (s : Str) : ∀ j, (usersUp d s j).length ≤ j
 | 0 => by simp [usersUp]
 | j + 1 => by
  have ih := length_usersUp d s j
  simp only [usersUp]
  split
  ·split
   ·rename_i x _ _; have := length_put (usersUp d s j) x.name; omega
   ·omega
  ·omega
noncomputable def introL (d : List TD) (s : Str) : List Str := maximal d (usersUp d s d.length)
noncomputable def introT (d : List TD) (s : Str) : T := if (introL d s).length = 1 then .tu [sv ((introL d s).getD 0 emptyS), bv true] else .tu [sv emptyS, bv false]
noncomputable def gVal : List T → Option T := g2 (tAg eTD) tStr fun x s => open Classical in if x.OK then some (valT x s) else none
theorem gVal_ok : GOK Try.prog G 121 gVal := g2_ok fun a b x y r ha hb hr => by
 obtain rfl : a = .ag (eTD.enc x) := ha
 obtain rfl : b = sv y := hb
 split at hr
 ·rename_i h; injection hr with hr; subst hr; exact value_call h y
 ·cases hr
theorem gVal_eq {x : TD} (ok : x.OK) (s : Str) : gVal [.ag [sv x.name, x.supers, x.feats], sv s] = some (.tu [sv (valOf x s), bv (hasF x s)]) := by
 rw [← valT_eq]
 exact (g2_eq (τ := tAg eTD) (σ := tStr) (x := x) (y := s) rfl rfl).trans (if_pos ok)
noncomputable def tb22 : Tbl := [(121, gVal), (120, gPut), (132, gMaximal)]
theorem ctx22 : Ctx Try.prog G (orc tb22) := (TblOK.cons gVal_ok (.cons put_ok (.cons maximal_ok .nil))).ctx mixed
noncomputable def S108 (t : T) (d : List TD) (s : Str) (j : Nat) : AState := ⟨[(7, .t (iv (j : Int))), (6, .t (treeS eStr (usersUp d s j))), (1, .t (sv s)), (0, .t t)], [], 0, 43⟩
theorem intro_call {t : T} {d : List TD} (ht : IsS eTD t d) (hg : Good d) (s : Str) : CallT Try.prog G 108 [t, sv s] (· = introT d s) := by
 have hdl := hg.len
 refine k_r05_intro.call rfl ?_
 unfold M_r05_intro
 refine mc_seq_runs ctx22 ?_
 simp -implicitDefEqProofs
 refine mc_seq_runs ctx22 ?_
 simp -implicitDefEqProofs
 refine mc_cut (fun _ : Unit => S108 t d s d.length) (fun _ => True) (fun _ => rfl) ?_ ?_
 ·refine mc_seq_runs ctx22 ?_
  simp -implicitDefEqProofs
  refine mc_block ?_
  refine mc_for (S108 t d s) d.length (fun _ => rfl) ?_ rfl ?_ ?_
  ·refine sub_forget rfl rfl ?_ ?_ <;> simp -implicitDefEqProofs [S108, usersUp, treeS]
  ·intro j hj
   refine mc_runs ctx22 ?_
   obtain ⟨x, hx⟩ : ∃ x, d[j]? = some x := ⟨_, List.getElem?_eq_getElem hj⟩
   have ok := hg.ok.2 x (List.mem_of_getElem? hx)
   have ia := ia_TD ht hx
   have gv := gVal_eq ok s
   have hul := length_usersUp d s j
   have gp := gPut_eq (IsS.tree eStr (usersUp d s j)) x.name (by unfold cap; omega)
   have e1 : IntKind.i64.wrap ((j : Int) + 1) = ((j + 1 : Nat) : Int) := wrap_nat (by omega) (by omega)
   have us : usersUp d s (j + 1) = if hasF x s then put (usersUp d s j) x.name else usersUp d s j := by simp only [usersUp, hx]
   cases z : hasF x s with
   | true =>
    rw [z] at gv us
    simp only [if_true] at us
    simp -implicitDefEqProofs [S108, hj, ht.len, ia, loadM, tb22, gv, extractV, gp, e1]
    refine sub_forget rfl rfl ?_ ?_ <;> simp -implicitDefEqProofs [us]
   | false =>
    rw [z] at gv us
    simp only [Bool.false_eq_true, if_false] at us
    simp -implicitDefEqProofs [S108, hj, ht.len, ia, loadM, tb22, gv, extractV, e1]
    refine sub_forget rfl rfl ?_ ?_ <;> simp -implicitDefEqProofs [us]
  ·refine mc_runs ctx22 ?_
   simp -implicitDefEqProofs [S108, ht.len]
   exact Next.mk () trivial (sub_forget rfl rfl (by simp -implicitDefEqProofs) (by simp -implicitDefEqProofs))
 ·rintro _ -
  have hul := length_usersUp d s d.length
  have gm := gMaximal_eq ht hg (IsS.tree eStr (usersUp d s d.length)) (by unfold cap; omega)
  obtain ⟨l, hl⟩ : ∃ l, l = introL d s := ⟨_, rfl⟩
  have gm : gMaximal [t, treeS eStr (usersUp d s d.length)] = some (treeS eStr l) := by rw [hl]; exact gm
  have hL := IsS.tree eStr l
  refine mc_runs ctx22 ?_
  by_cases h1 : l.length = 1
  ·have h1' : ((l.length : Int) != 1) = false := by rw [h1]; rfl
   obtain ⟨v, hv⟩ : ∃ v, l[0]? = some v := ⟨_, List.getElem?_eq_getElem (by omega)⟩
   have ia := ia_str hL hv
   simp only [Int.natCast_zero] at ia
   have hres : introT d s = .tu [sv v, bv true] := by
    unfold introT
    rw [← hl, if_pos h1]
    simp [List.getD_eq_getElem?_getD, hv]
   simp -implicitDefEqProofs [S108, tb22, gm, hL.len, h1', ia, loadM, hres]
  ·have h1' : ((l.length : Int) != 1) = true := by simp; omega
   have hres : introT d s = .tu [sv emptyS, bv false] := by
    unfold introT
    rw [← hl, if_neg h1]
   simp -implicitDefEqProofs [S108, tb22, gm, hL.len, h1', hres]
theorem nodup_full {α : Type} {l m : List α} (hn : l.Nodup) (hs : ∀ x ∈ l, x ∈ m) (hl : m.length ≤ l.length) : ∀ x ∈ m, x ∈ l := by
 intro a ha
 refine Classical.byContradiction fun hna => ?_
 have := nodup_le (l := a :: l) (m := m) (List.nodup_cons.2 ⟨hna, hn⟩) (fun x hx => by
  rcases List.mem_cons.1 hx with rfl | hx
  ·exact ha
  ·exact hs x hx)
 simp at this
 omega
structure Ord (d : List TD) (out : List Str) : Prop where
 nodup : out.Nodup
 sub : ∀ s ∈ out, ∃ x ∈ d, x.name = s
 ord : ∀ (k : Nat) s x, out[k]? = some s → x ∈ d → x.name = s → ∀ u ∈ x.ss, u ∈ out.take k
theorem Good.same {d : List TD} (hg : Good d) {x y : TD} (hx : x ∈ d) (hy : y ∈ d) (h : x.name = y.name) : x = y := by
 obtain ⟨i, hi, ei⟩ := List.getElem_of_mem hx
 obtain ⟨j, hj, ej⟩ := List.getElem_of_mem hy
 have h1 := hg.idx i x (by rw [List.getElem?_eq_getElem hi, ei])
 have h2 := hg.idx j y (by rw [List.getElem?_eq_getElem hj, ej])
 rw [h, h2] at h1
 subst h1
 rw [← ei, ← ej]
theorem Ord.next {d : List TD} (hg : Good d) {out : List Str} (h : Ord d out) (hp : (pick d out).1 = true) : Ord d (out ++ [(pick d out).2]) := by
 obtain ⟨x, hx, e, h1, h2⟩ := pick_true hp
 refine ⟨?_, ?_, ?_⟩
 ·rw [List.nodup_append]
  refine ⟨h.nodup, by simp, fun a ha b hb e2 => ?_⟩
  simp only [List.mem_singleton] at hb
  subst hb; subst e2
  rw [← e] at ha
  rw [(hasS_iff out x.name).2 ha] at h1
  cases h1
 ·intro s hs
  rcases List.mem_append.1 hs with hs | hs
  ·exact h.sub s hs
  ·simp only [List.mem_singleton] at hs
   exact ⟨x, hx, by rw [hs, e]⟩
 ·intro k s y hk hy hys u hu
  rcases Nat.lt_or_ge k out.length with hlt | hge
  ·rw [List.getElem?_append_left hlt] at hk
   have := h.ord k s y hk hy hys u hu
   rw [List.take_append_of_le_length (by omega)]
   exact this
  ·have hk' : k = out.length := by
    have := (List.getElem?_eq_some_iff.1 hk).1
    simp at this
    omega
   subst hk'
   simp at hk
   have : y = x := hg.same hy hx (by rw [hys, ← hk, e])
   subst this
   unfold readyB at h2
   rw [List.all_eq_true] at h2
   have := (hasS_iff out u).1 (h2 u hu)
   simpa using this
theorem placedF_ord {d : List TD} (hg : Good d) : ∀ (k : Nat) (out : List Str), Ord d out → Ord d (placedF d k out)
 | 0, out, h => h
 | k + 1, out, h => by
  unfold placedF
  split
  ·rename_i hp
   exact placedF_ord hg k _ (h.next hg hp)
  ·exact h
theorem placed_ord {d : List TD} (hg : Good d) : Ord d (placed d) :=
 placedF_ord hg _ _ ⟨List.nodup_nil, (fun _ h => by cases h), fun k s x h => by simp at h⟩
noncomputable def rk (d : List TD) (s : Str) : Nat := (placed d).findIdx fun x => decide (x = s)
theorem mem_placed {d : List TD} (hg : Good d) {x : TD} (hx : x ∈ d) : x.name ∈ placed d := by
 have ho := placed_ord hg
 refine nodup_full (m := d.map TD.name) ho.nodup (fun s hs => ?_) (by simpa using hg.plc) _ (List.mem_map.2 ⟨x, hx, rfl⟩)
 obtain ⟨y, hy, e⟩ := ho.sub s hs
 exact List.mem_map.2 ⟨y, hy, e⟩
theorem rk_lt {d : List TD} (hg : Good d) {x : TD} (hx : x ∈ d) {u : Str} (hu : u ∈ x.ss) : rk d u < rk d x.name := by
 have ho := placed_ord hg
 have hm := mem_placed hg hx
 have hlt : rk d x.name < (placed d).length := by
  unfold rk
  rw [List.findIdx_lt_length]
  exact ⟨x.name, hm, by simp⟩
 obtain ⟨y, hy, hp⟩ := findIdx_hit (p := fun z => decide (z = x.name)) (l := placed d) hlt
 have hy' : (placed d)[rk d x.name]? = some x.name := by
  have : y = x.name := by simpa using hp
  subst this
  exact hy
 have hin := ho.ord _ _ x hy' hx rfl u hu
 obtain ⟨i, hi, e⟩ := List.getElem_of_mem hin
 rw [List.getElem_take] at e
 have hil : i < rk d x.name := by
  rw [List.length_take] at hi
  omega
 have hle : rk d u ≤ i := by
  rcases Nat.lt_or_ge i (rk d u) with h | h
  ·have := findIdx_not (p := fun z => decide (z = u)) (l := placed d) h (y := u) (by rw [List.getElem?_eq_getElem (by omega), e])
   simp at this
  ·exact h
 omega
theorem mem_belowUp {d : List TD} {v : Str} {todo : List Str} {u : Str} : ∀ {j : Nat}, u ∈ belowUp d v todo j → u ∈ todo ∨ ∃ x ∈ d, x.name = u ∧ v ∈ x.ss
 | 0, h => by simp [belowUp] at h; exact .inl h
 | j + 1, h => by
  cases hx : d[j]? with
  | none =>
   have : belowUp d v todo (j + 1) = belowUp d v todo j := by unfold belowUp; rw [List.take_add_one, hx]; simp
   rw [this] at h
   exact mem_belowUp h
  | some x =>
   rw [belowUp_succ hx] at h
   unfold belowIn at h
   split at h
   ·rename_i hc
    simp only [Bool.and_eq_true] at hc
    rcases List.mem_append.1 h with h | h
    ·exact mem_belowUp h
    ·simp only [List.mem_singleton] at h
     exact .inr ⟨x, List.mem_of_getElem? hx, h.symm, (hasS_iff _ _).1 hc.1⟩
   ·exact mem_belowUp h
theorem belowTodo_rk {d : List TD} (hg : Good d) {s : Str} (hs : ∃ x ∈ d, x.name = s) : ∀ u ∈ belowTodo d s, u = s ∨ rk d s < rk d u := by
 have := workF_keep (next := belowNext d) (In := fun u => (∃ x ∈ d, x.name = u) ∧ (u = s ∨ rk d s < rk d u)) (fun v todo hv h1 h2 => by
  have hgr := belowUp_grow (d := d) v h1 (fun u hu => (h2 u hu).1) d.length (Nat.le_refl _)
  rw [belowUp_all] at hgr
  refine ⟨hgr.nodup, fun u hu => ⟨hgr.mem u hu, ?_⟩⟩
  rw [← belowUp_all] at hu
  rcases mem_belowUp hu with hu | ⟨x, hx, rfl, hvx⟩
  ·exact (h2 u hu).2
  ·right
   have := rk_lt hg hx hvx
   rcases hv.2 with rfl | h
   ·exact this
   ·omega) (d.length + 1) 0 [s] (by simp) (by simpa using hs)
 exact fun u hu => (this.2 u hu).2
theorem workF_start {next : Str → List Str → List Str} (hk : ∀ s todo u, u ∈ todo → u ∈ next s todo) {u : Str} : ∀ (f i : Nat) (todo : List Str), u ∈ todo → u ∈ workF next f i todo
 | 0, i, todo, h => h
 | f + 1, i, todo, h => by
  simp only [workF]
  split
  ·exact h
  ·exact workF_start hk f (i + 1) _ (hk _ _ _ h)
theorem self_below {d : List TD} {s : Str} (hs : ∃ x ∈ d, x.name = s) : s ∈ below d s := by
 obtain ⟨x, hx, rfl⟩ := hs
 have hf : ¬ findD d x.name < 0 := by
  obtain ⟨i, hi, e⟩ := List.getElem_of_mem hx
  have := idxOf_le (d := d) (i := i) (x := x) (by rw [List.getElem?_eq_getElem hi, e]) rfl
  unfold findD
  rw [if_pos (by omega)]
  omega
 unfold below
 rw [if_neg hf]
 refine mem_putAll.2 (workF_start (fun v todo u hu => ?_) _ _ _ (by simp))
 unfold belowNext
 have : ∀ (l : List TD) (acc : List Str), u ∈ acc → u ∈ l.foldl (belowIn v) acc := by
  intro l
  induction l with
  | nil => intro acc h; exact h
  | cons y l ih =>
   intro acc h
   rw [List.foldl_cons]
   refine ih _ ?_
   unfold belowIn
   split
   ·exact List.mem_append_left _ h
   ·exact h
 exact this d todo hu
theorem below_rk {d : List TD} (hg : Good d) {s u : Str} (hs : ∃ x ∈ d, x.name = s) (h : u ∈ below d s) : u = s ∨ rk d s < rk d u := by
 unfold below at h
 split at h
 ·cases h
 ·exact belowTodo_rk hg hs u (mem_putAll.1 h)
theorem eqS_has {x y : List W} (h : eqS x y = true) (i : Nat) : hasL x i = hasL y i := by
 unfold eqS at h
 simp only [Bool.and_eq_true, subL_iff] at h
 unfold hasL
 have h1 := h.1 (i / 64)
 have h2 := h.2 (i / 64)
 have e1 : ((wd x (i / 64)) &&& ~~~ (wd y (i / 64))).getLsbD (i % 64) = false := by rw [h1]; simp
 have e2 : ((wd y (i / 64)) &&& ~~~ (wd x (i / 64))).getLsbD (i % 64) = false := by rw [h2]; simp
 have hm : i % 64 < 64 := Nat.mod_lt _ (by omega)
 simp only [BitVec.getLsbD_and, BitVec.getLsbD_not, hm, decide_true, Bool.true_and] at e1 e2
 cases h3 : (wd x (i / 64)).getLsbD (i % 64) <;> cases h4 : (wd y (i / 64)).getLsbD (i % 64) <;> simp_all
theorem code_inj {d : List TD} (hg : Good d) {a b : Str} (ha : a ∈ names d) (hb : b ∈ names d) (h : eqS (codeW d (names d) a) (codeW d (names d) b) = true) : a = b := by
 have hl : (names d).length ≤ 256 := Nat.le_trans (length_names d) hg.len
 have key : ∀ {a b : Str}, a ∈ names d → b ∈ names d → (∀ i, hasL (codeW d (names d) a) i = hasL (codeW d (names d) b) i) → b ∈ below d a := by
  intro a b ha hb hh
  obtain ⟨i, hi, e⟩ := List.getElem_of_mem hb
  have hgd : (names d).getD i emptyS = b := by simp [List.getD_eq_getElem?_getD, hi, e]
  have h1 := hh i
  rw [has_codeW hl, has_codeW hl, hgd, (hasS_iff (below d b) b).2 (self_below (mem_names.1 hb))] at h1
  simp only [decide_eq_true hi, Bool.true_and, Bool.and_true] at h1
  exact (hasS_iff _ _).1 h1
 have hh := eqS_has h
 rcases below_rk hg (mem_names.1 ha) (key ha hb hh) with h1 | h1
 ·exact h1.symm
 ·rcases below_rk hg (mem_names.1 hb) (key hb ha fun i => (hh i).symm) with h2 | h2
  ·exact h2
  ·omega
theorem nameOf_code {d : List TD} (hg : Good d) {j : Nat} {s : Str} (hs : (names d)[j]? = some s) : nameOf d (names d) (codesOf d) (codeW d (names d) s) = s := by
 have hj := (List.getElem?_eq_some_iff.1 hs).1
 have hcj : (codesOf d)[j]? = some (codeW d (names d) s) := by simp [codesOf, hs]
 have hself : eqS (codeW d (names d) s) (codeW d (names d) s) = true := by
  have : subL (codeW d (names d) s) (codeW d (names d) s) = true := (subL_iff _ _).2 fun i => by simp
  unfold eqS; rw [this]; rfl
 have hlt : (codesOf d).findIdx (fun x => eqS x (codeW d (names d) s)) < (codesOf d).length := by
  rw [List.findIdx_lt_length]
  exact ⟨_, List.mem_of_getElem? hcj, hself⟩
 unfold nameOf
 rw [if_pos hlt]
 obtain ⟨x, hx, hp⟩ := findIdx_hit hlt
 have hp : eqS x (codeW d (names d) s) = true := hp
 obtain ⟨i, hi⟩ : ∃ i, i = (codesOf d).findIdx (fun x => eqS x (codeW d (names d) s)) := ⟨_, rfl⟩
 rw [← hi] at hx ⊢
 have hil : i < (names d).length := by
  have := (List.getElem?_eq_some_iff.1 hx).1
  simpa [codesOf] using this
 have hx2 : x = codeW d (names d) ((names d)[i]) := by
  simp [codesOf, hil] at hx
  exact hx.symm
 rw [hx2] at hp
 have := code_inj hg (List.getElem_mem hil) (List.mem_of_getElem? hs) hp
 simp [List.getD_eq_getElem?_getD, hil, this]
theorem num_found {d : List TD} (hg : Good d) {s : Str} (hs : ∃ x ∈ d, x.name = s) : ∃ (i : Nat) (co : Co), numOf (codesL d) s = (i : Int) ∧ (codesL d)[i]? = some co ∧ co.name = s := by
 have hm := mem_names.2 hs
 obtain ⟨j, hj, e⟩ := List.getElem_of_mem hm
 have hs' : (names d)[j]? = some s := by rw [List.getElem?_eq_getElem hj, e]
 have hcj : (codesOf d)[j]? = some (codeW d (names d) s) := by simp [codesOf, hs']
 obtain ⟨r, hr⟩ := (famF_fam 300 0 (codesOf d)).pre
 have hfj : (family (codesOf d))[j]? = some (codeW d (names d) s) := by
  show (famF 300 0 (codesOf d))[j]? = _
  rw [hr, List.getElem?_append_left (List.getElem?_eq_some_iff.1 hcj).1]
  exact hcj
 have hin : mkCo d (names d) (codesOf d) (codeW d (names d) s) ∈ codesL d := (mem_coUp (Nat.le_refl _)).2 ⟨j, _, (List.getElem?_eq_some_iff.1 hfj).1, hfj, rfl⟩
 have hlt : coIdx (codesL d) s < (codesL d).length := by
  unfold coIdx
  rw [List.findIdx_lt_length]
  exact ⟨_, hin, by simp [mkCo, nameOf_code hg hs']⟩
 obtain ⟨co, hco, hp⟩ := findIdx_hit (p := fun x : Co => decide (x.name = s)) (l := codesL d) hlt
 refine ⟨coIdx (codesL d) s, co, ?_, hco, by simpa using hp⟩
 unfold numOf
 rw [if_pos hlt]
theorem codesL_size {d : List TD} {co : Co} (h : co ∈ codesL d) : co.code.length ≤ 64 := by
 obtain ⟨i, x, _, h2, rfl⟩ := (mem_coUp (Nat.le_refl _)).1 h
 refine (famF_fam 300 0 (codesOf d)).size (fun x hx => ?_) x (List.mem_of_getElem? h2)
 obtain ⟨s, _, rfl⟩ := List.mem_map.1 hx
 exact len_codeW d _ s
theorem length_codesL (d : List TD) : (codesL d).length = (family (codesOf d)).length := length_coUp _ _ _ _ _
noncomputable def gFeature : List T → Option T := g1 tStr fun s => if s.size ≤ 9223372036854775807 then some (bv (isNamed true s)) else none
theorem gFeature_ok : GOK Try.prog G 135 gFeature := g1_ok fun a x r ha hr => by
 obtain rfl : a = sv x := ha
 split at hr
 ·rename_i h; injection hr with hr; subst hr; exact feature_call x h
 ·cases hr
theorem gFeature_eq (s : Str) (h : s.size ≤ cap) : gFeature [sv s] = some (bv (isNamed true s)) := by
 unfold gFeature
 rw [g1_eq (τ := tStr) rfl, if_pos (by unfold cap at h; omega)]
noncomputable def tb23 : Tbl := [(135, gFeature), (102, gD fun d => treeS eStr (names d)), (127, gAmong)]
theorem ctx23 : Ctx Try.prog G (orc tb23) := (TblOK.cons gFeature_ok (.cons (gD_ok fun ht hd => names_call ht (by have := hd.1; unfold cap; omega)) (.cons among_ok .nil))).ctx mixed
def Off (l : List FD) (s : Str) (j : Nat) : Prop := ∀ (i : Nat) y, i < j → l[i]? = some y → y.feat ≠ s
noncomputable def dupF (l : List FD) (k : Nat) (s : Str) : Bool := open Classical in decide (¬ Off l s k)
theorem dupF_iff {l : List FD} {k : Nat} {s : Str} : dupF l k s = true ↔ ¬ Off l s k := by
 unfold dupF
 exact @decide_eq_true_iff _ (_)
noncomputable def featE (d : List TD) (l : List FD) (k : Nat) (f : FD) : Int := if isNamed true f.feat = false then 1 else if dupF l k f.feat then 4 else if hasS (names d) f.value = false then 5 else 0
noncomputable def declsE (d : List TD) : Int := firstE (fun _ x => firstE (featE d x.fs) x.fs) d
def S119 (t u : T) (j : Nat) : AState := ⟨[(4, .t (iv (j : Int))), (3, .t u), (0, .t t)], [], 0, 58⟩
def S119b (t u v : T) (j k : Nat) : AState := ⟨[(6, .t (iv (k : Int))), (5, .t v), (4, .t (iv (j : Int))), (3, .t u), (0, .t t)], [], 0, 58⟩
def S119c (t u v : T) (j k m : Nat) : AState := ⟨[(7, .t (iv (m : Int))), (6, .t (iv (k : Int))), (5, .t v), (4, .t (iv (j : Int))), (3, .t u), (0, .t t)], [], 0, 58⟩
theorem decls_call {t : T} {d : List TD} (ht : IsS eTD t d) (hd : DOK d) : CallT Try.prog G 119 [t] (· = iv (declsE d)) := by
 have gN : gD (fun d => treeS eStr (names d)) [t] = some (treeS eStr (names d)) := gD_eq ht hd
 have hnl := length_names d
 obtain ⟨hdl, hd⟩ := hd
 obtain ⟨u, hu⟩ : ∃ u, u = treeS eStr (names d) := ⟨_, rfl⟩
 have hU : IsS eStr u (names d) := hu ▸ IsS.tree eStr _
 have gA : ∀ s, gAmong [u, sv s] = some (bv (hasS (names d) s)) := fun s => gAmong_eq hU s (by unfold cap; omega)
 rw [← hu] at gN
 refine k_r05_declarations.call rfl ?_
 unfold M_r05_declarations
 refine mc_seq_runs ctx23 ?_
 simp -implicitDefEqProofs
 refine mc_seq_runs ctx23 ?_
 simp -implicitDefEqProofs [tb23, gN]
 refine mc_cut (fun _ : Unit => S119 t u d.length) (fun _ => Clear (fun _ (x : TD) => firstE (featE d x.fs) x.fs) d d.length) (fun _ => rfl) ?_ ?_
 ·refine mc_seq_runs ctx23 ?_
  simp -implicitDefEqProofs
  refine mc_block ?_
  refine mc_while (S119 t u) (fun j => d.length - j) (Clear (fun _ (x : TD) => firstE (featE d x.fs) x.fs) d) 0 (fun _ => rfl) (Clear.zero _ _) ?_ rfl ?_
  ·refine sub_forget rfl rfl ?_ ?_ <;> simp -implicitDefEqProofs [S119]
  ·intro j hc
   by_cases hj : j < d.length
   ·obtain ⟨x, hx⟩ : ∃ x, d[j]? = some x := ⟨_, List.getElem?_eq_getElem hj⟩
    have ok := hd x (List.mem_of_getElem? hx)
    have ia := ia_TD ht hx
    refine mc_seq_runs ctx23 ?_
    simp -implicitDefEqProofs [S119, hj, ht.len]
    refine mc_cut (fun _ : Unit => S119b t u x.feats j x.fs.length) (fun _ => Clear (featE d x.fs) x.fs x.fs.length) (fun _ => rfl) ?_ ?_
    ·refine mc_block ?_
     refine mc_seq_runs ctx23 ?_
     simp -implicitDefEqProofs [ia, loadM]
     refine mc_seq_runs ctx23 ?_
     simp -implicitDefEqProofs
     refine mc_block ?_
     refine mc_while (S119b t u x.feats j) (fun k => x.fs.length - k) (Clear (featE d x.fs) x.fs) 0 (fun _ => rfl) (Clear.zero _ _) ?_ rfl ?_
     ·refine sub_forget rfl rfl ?_ ?_ <;> simp -implicitDefEqProofs [S119b]
     ·intro k hk
      have hsl := ok.fsl
      unfold cap at hsl
      by_cases hkl : k < x.fs.length
      ·obtain ⟨f, hf⟩ : ∃ f, x.fs[k]? = some f := ⟨_, List.getElem?_eq_getElem hkl⟩
       have ib := ia_FD ok.fs hf
       have gf := gFeature_eq f.feat (ok.fsize f (List.mem_of_getElem? hf))
       have e1 : IntKind.i64.wrap ((k : Int) + 1) = ((k + 1 : Nat) : Int) := wrap_nat (by omega) (by omega)
       have ends : ∀ e : Int, featE d x.fs k f = e → e ≠ 0 → declsE d = e := fun e hE he => by
        have h5 := firstE_at hk hf (by rw [hE]; exact he)
        have := firstE_at (f := fun _ (x : TD) => firstE (featE d x.fs) x.fs) hc hx (by rw [h5, hE]; exact he)
        rw [h5, hE] at this
        exact this
       refine mc_seq_runs ctx23 ?_
       simp -implicitDefEqProofs [S119b, hkl, ok.fs.len]
       refine mc_cut (fun _ : Unit => S119b t u x.feats j k) (fun _ => featE d x.fs k f = 0) (fun _ => rfl) ?_ ?_
       ·refine mc_block ?_
        cases z1 : isNamed true f.feat with
        | false =>
         have h6 := ends 1 (by unfold featE; rw [if_pos z1]) (by decide)
         refine mc_seq_runs ctx23 ?_
         simp -implicitDefEqProofs [ib, loadM, tb23, gf, z1, h6]
        | true =>
         refine mc_seq_runs ctx23 ?_
         simp -implicitDefEqProofs [ib, loadM, tb23, gf, z1]
         refine mc_cut (fun _ : Unit => S119c t u x.feats j k k) (fun _ => Off x.fs f.feat k) (fun _ => rfl) ?_ ?_
         ·refine mc_seq_runs ctx23 ?_
          simp -implicitDefEqProofs
          refine mc_block ?_
          refine mc_while (S119c t u x.feats j k) (fun m => k - m) (fun m => m ≤ k ∧ Off x.fs f.feat m) 0 (fun _ => rfl) ⟨Nat.zero_le _, fun i y h => by omega⟩ ?_ rfl ?_
          ·refine sub_forget rfl rfl ?_ ?_ <;> simp -implicitDefEqProofs [S119c]
          ·intro m ⟨hm, ho⟩
           refine mc_runs ctx23 ?_
           by_cases hmk : m < k
           ·obtain ⟨g, hg⟩ : ∃ g, x.fs[m]? = some g := ⟨_, List.getElem?_eq_getElem (by omega)⟩
            have ic := ia_FD ok.fs hg
            have e2 : IntKind.i64.wrap ((m : Int) + 1) = ((m + 1 : Nat) : Int) := wrap_nat (by omega) (by omega)
            by_cases z2 : g.feat = f.feat
            ·have hdup : dupF x.fs k f.feat = true := by
              refine dupF_iff.2 fun h => h m g hmk hg z2
             have h6 := ends 4 (by unfold featE; rw [if_neg (by rw [z1]; simp), if_pos hdup]) (by decide)
             simp -implicitDefEqProofs [S119c, hmk, ib, ic, loadM, str_beq, z2, h6]
            ·simp -implicitDefEqProofs [S119c, hmk, ib, ic, loadM, str_beq, z2, e2]
             refine Next.mk (m + 1) ⟨⟨by omega, fun i y hi hy => ?_⟩, by omega⟩ (sub_forget rfl rfl (by simp -implicitDefEqProofs [S119c]) (by simp -implicitDefEqProofs [S119c]))
             rcases Nat.lt_succ_iff_lt_or_eq.1 hi with h | rfl
             ·exact ho i y h hy
             ·rw [hg] at hy; injection hy with hy; exact hy ▸ z2
           ·have hm' : m = k := by omega
            simp -implicitDefEqProofs [S119c, hmk]
            exact Next.mk () (hm' ▸ ho) (sub_forget rfl rfl (by simp -implicitDefEqProofs [S119c, hm']) (by simp -implicitDefEqProofs [S119c]))
         ·rintro _ ho
          have hdup : dupF x.fs k f.feat = false := by
           refine Bool.eq_false_iff.2 fun h => dupF_iff.1 h ho
          refine mc_runs ctx23 ?_
          cases z3 : hasS (names d) f.value with
          | false =>
           have h6 := ends 5 (by unfold featE; rw [if_neg (by rw [z1]; simp), if_neg (by rw [hdup]; simp), if_pos z3]) (by decide)
           simp -implicitDefEqProofs [S119c, ib, loadM, tb23, gA, z3, h6]
          | true =>
           simp -implicitDefEqProofs [S119c, ib, loadM, tb23, gA, z3]
           exact Next.mk () (by unfold featE; rw [if_neg (by rw [z1]; simp), if_neg (by rw [hdup]; simp), if_neg (by rw [z3]; simp)]) (sub_forget rfl rfl (by simp -implicitDefEqProofs [S119b]) (by simp -implicitDefEqProofs [S119b]))
       ·rintro _ hE
        refine mc_runs ctx23 ?_
        simp -implicitDefEqProofs [S119b, e1]
        exact Next.mk (k + 1) ⟨hk.succ hf hE, by omega⟩ (sub_forget rfl rfl (by simp -implicitDefEqProofs [S119b]) (by simp -implicitDefEqProofs [S119b]))
      ·refine mc_runs ctx23 ?_
       have hkl' : k = x.fs.length := by have := hk.1; omega
       simp -implicitDefEqProofs [S119b, hkl, ok.fs.len]
       exact Next.mk () (hkl' ▸ hk) (sub_forget rfl rfl (by simp -implicitDefEqProofs [S119b, hkl']) (by simp -implicitDefEqProofs [S119b]))
    ·rintro _ hk
     refine mc_runs ctx23 ?_
     have e1 : IntKind.i64.wrap ((j : Int) + 1) = ((j + 1 : Nat) : Int) := wrap_nat (by omega) (by omega)
     simp -implicitDefEqProofs [S119b, e1]
     exact Next.mk (j + 1) ⟨hc.succ hx (firstE_none hk), by omega⟩ (sub_forget rfl rfl (by simp -implicitDefEqProofs [S119]) (by simp -implicitDefEqProofs [S119]))
   ·have hj' : j = d.length := by have := hc.1; omega
    refine mc_runs ctx23 ?_
    simp -implicitDefEqProofs [S119, hj, ht.len]
    exact Next.mk () (hj' ▸ hc) (sub_forget rfl rfl (by simp -implicitDefEqProofs [S119, hj']) (by simp -implicitDefEqProofs [S119]))
 ·rintro _ hc
  refine mc_runs ctx23 ?_
  have h6 : declsE d = 0 := firstE_none hc
  simp -implicitDefEqProofs [S119, h6]
end Go.Proofs.Ytbiadmfmjnoecaa
