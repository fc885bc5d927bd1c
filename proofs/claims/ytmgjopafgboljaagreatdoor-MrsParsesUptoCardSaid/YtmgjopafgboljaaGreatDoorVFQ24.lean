/- Auxiliary facts. -/
import Derived.Test.YtmgjopafgboljaaGreatDoorVFQ14
import Derived.Test.YtmgjopafgboljaaGreatDoorCards
import Derived.Test.YtmgjopafgboljaaGreatDoorTie
import Derived.Deep.DeepHandedRow
import Derived.Stop.LaidErr
set_option linter.unusedSimpArgs false
set_option maxRecDepth 100000
set_option maxHeartbeats 0
set_option linter.unusedVariables false
open Go.Proofs.Tryz renaming prog->Xc,underlying117->Xd,underlying215->Xe,underlying217->Xf,underlying9->Xg
namespace Go.Proofs.YtmgjopafgboljaaGreatDoor
open Go Go.Abs Go.ChangeShapes Go.WideShapes Go.ChangeAt Go.RowKit
theorem own:ownKnob Xc.godebug=none:=by kernel_rfl
theorem A1z:laidOutB Xc=true:=by kernel_rfl
abbrev R8:List (String×DataW Unit):=[("math/bits.deBruijn32tab", Rows.laid_math_bits_deBruijn32tab),("math/bits.deBruijn64tab", Rows.laid_math_bits_deBruijn64tab),("internal/strconv.uint64pow10", Rows.laid_internal_strconv_uint64pow10),("unicode/utf8.acceptRanges", Rows.laid_unicode_utf8_acceptRanges),("strconv.ErrRange", Rows.laid_strconv_ErrRange),("strconv.ErrSyntax", Rows.laid_strconv_ErrSyntax),("unicode/utf8.first", Rows.laid_unicode_utf8_first)]
theorem A2a {W:World} (h:W.ShapedOpen Xc):∃m,W.var? Xc "internal/bytealg.MaxLen" = some #[.int .i64 m]:=by
 obtain⟨h1,hr1⟩:=h;clear hr1;obtain⟨cs,hw,hsz,hok⟩:=h1 0 #[.int .i64 0] 3 (of_decide_eq_true (by kernel_rfl)) (by kernel_rfl);obtain⟨ts,hts,hnn,hc⟩:=hok (by kernel_rfl);have e1:cs.size=1:=hsz
 obtain⟨v,hv⟩:∃v,cs = #[v]:=by
  obtain⟨l⟩:=cs
  cases l with
  | nil=>cases e1
  | cons v r=>cases r with
   | nil=>exact⟨v,rfl⟩
   | cons _ _=>simp at e1
 subst hv;obtain⟨u,hu,hcell⟩:=hc 0 v rfl;have hts':ts=[3]:=Option.some.inj (hts.symm.trans (show Xc.cellTypes Xc.depth 3=some [3]by kernel_rfl));subst hts'
 have hu3:u=3:=by simpa using hu.symm
 subst hu3;unfold Cell.ok at hcell;have hun:=Tryz.underlying3;generalize Xc.underlying 3=d at hcell hun;subst hun;cases v<;>simp only at hcell
 case int kd nv=>
  obtain⟨rfl,hh⟩:=hcell;refine⟨nv,?_⟩;unfold World.var?
  rw[show Xc.globalNamed "internal/bytealg.MaxLen" = some 0 by kernel_rfl]
  simp only[Option.bind_some,hw]
theorem c8 : "*errors.errorString" = "*" ++ "errors.errorString":=by decide
theorem cA (u:TypeId) (h:Xc.typeName? 3 u=some "*errors.errorString"):u=215:=
 typeName_ptr_named (nm:= "errors.errorString") (by rw[<-c8];kernel_rfl) (by kernel_rfl) (by decide) u (by rw[<-c8];exact h)
theorem A2b {W:World} (h:laidMetH Xc R8 W) (hsh:W.ShapedOpen Xc):∃q:Gl,∀(g:Nat) (cs:List T),Aj (G q) g=some cs->Old W g/\Ex (Old W) W cs g:=by
 have h0:laidMet Xc R8 W:=h
 have t:Lib.TabIs Xc W "internal/strconv.uint64pow10" .u64 LD:=Lib.tabIs_of_head (by kernel_rfl) (show(Xc.globals[1]?).map (·.type)=some 200 by kernel_rfl) Tryz.underlying200 Tryz.underlying154 (by kernel_rfl) (by kernel_rfl) h0.tail.tail
 obtain⟨m,hm⟩:=A2a hsh;obtain⟨a1,s1,v1,_⟩:=laid_sentinel (g:=3) (ti:=117) (tp:=215) (te:=217) (ts:=9) h0.tail.tail.tail.tail (by kernel_rfl) (by kernel_rfl) Xd cA Xe Xf rfl rfl Xg (by kernel_rfl) (by kernel_rfl);obtain⟨a0,s0,v0,_⟩:=laid_sentinel (g:=2) (ti:=117) (tp:=215) (te:=217) (ts:=9) h0.tail.tail.tail.tail.tail (by kernel_rfl) (by kernel_rfl) Xd cA Xe Xf rfl rfl Xg (by kernel_rfl) (by kernel_rfl);refine⟨⟨m,215,.pointer (some a0),215,.pointer (some a1)⟩,λg cs hl=>?_⟩;simp only[G,Aj]at hl;split at hl
 .rename_i e;subst e;injection hl with hl;subst hl;exact MI (vs:=[.iface 215 (.pointer (some a0))]) v0 (by kernel_rfl) (by intro x hx;simp at hx;subst hx;rfl)
 .split at hl
  .rename_i e;subst e;injection hl with hl;subst hl;exact MI (vs:=[.iface 215 (.pointer (some a1))]) v1 (by kernel_rfl) (by intro x hx;simp at hx;subst hx;rfl)
  .split at hl
   .rename_i e;subst e;injection hl with hl;subst hl;exact dY t (by kernel_rfl)
   .split at hl
    .rename_i e;subst e;injection hl with hl;subst hl;exact MI (vs:=[.int .i64 m]) hm (by kernel_rfl) (by intro x hx;simp at hx;subst hx;rfl)
    .cases hl
def cB:Lit->Value
 | .int k n=>.int k n
 | _=>undef
def A2c:DataW Unit->List Value
 | .lit x=>[cB x]
 | .agg l=>l.flatMap fun | .lit x=>[cB x] | _=>[]
 | _=>[]
def M6:DataW Unit->List Value
 | .agg l=>l.flatMap A2c
 | _=>[]
noncomputable def low:Nat:=(World.holding Xc default ⟨#[],#[],[]⟩).heap.size
def Jr (h:Array Obj) (g:Nat) (cs:Array Value):Array Obj:=h.modify g fun
 | .cells _ t frozen=>.cells cs t frozen
 | o=>o
noncomputable def R9 (os:Os):World:=
 let w0:=World.holding Xc os ⟨#[.cells #[.string ⟨#[105,110,118,97,108,105,100,32,115,121,110,116,97,120]⟩] 217,.cells #[.string ⟨#[118,97,108,117,101,32,111,117,116,32,111,102,32,114,97,110,103,101]⟩] 217],#[],[]⟩
 { w0 with heap:=Jr (Jr (Jr (Jr (Jr (Jr (Jr w0.heap 2 #[.iface 215 (.pointer (some ⟨low,0,none⟩))]) 3 #[.iface 215 (.pointer (some ⟨low+1,0,none⟩))]) 4 (M6 Rows.laid_unicode_utf8_first).toArray) 5 (M6 Rows.laid_unicode_utf8_acceptRanges).toArray)
  1 (M6 Rows.laid_internal_strconv_uint64pow10).toArray) 6 (M6 Rows.laid_math_bits_deBruijn32tab).toArray) 7 (M6 Rows.laid_math_bits_deBruijn64tab).toArray }
theorem A2d (os:Os) (args:Array Value):laidMet Xc R8 ((R9 os).forCall (λ_ _=>0) ⟨#[],args,[]⟩).memory:=
 laidMet_of_run' 8 (by kernel_rfl) (by kernel_rfl)
end Go.Proofs.YtmgjopafgboljaaGreatDoor
