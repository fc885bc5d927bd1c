/- Auxiliary facts. -/
import Derived.Test.YtobnacghaamfoaaGreatDoorVGQ43
import Derived.Test.YtobnacghaamfoaaGreatDoorCards
import Derived.Test.YtobnacghaamfoaaGreatDoorTie
import Derived.Deep.DeepHandedRow
import Derived.Stop.LaidErr
set_option linter.unusedSimpArgs false
set_option maxRecDepth 100000
set_option maxHeartbeats 0
set_option linter.unusedVariables false
open Go.Proofs.Tryz renaming prog->Xa,underlying9->Xb,underlying86->Xc,underlying236->Xd,underlying238->Xe
open Go.IntKind renaming i64->Xf
namespace Go.Proofs.YtobnacghaamfoaaGreatDoor
open Go Go.Abs Go.ChangeShapes Go.WideShapes Go.ChangeAt Go.RowKit
theorem own:ownKnob Xa.godebug=none:=by kernel_rfl
theorem Me:laidOutB Xa=true:=by kernel_rfl
abbrev Vs:List (String×DataW Unit):=[("math/bits.deBruijn32tab", Rows.laid_math_bits_deBruijn32tab),("math/bits.deBruijn64tab", Rows.laid_math_bits_deBruijn64tab),("internal/strconv.uint64pow10", Rows.laid_internal_strconv_uint64pow10),("unicode/utf8.acceptRanges", Rows.laid_unicode_utf8_acceptRanges),("strconv.ErrRange", Rows.laid_strconv_ErrRange),("strconv.ErrSyntax", Rows.laid_strconv_ErrSyntax),("unicode/utf8.first", Rows.laid_unicode_utf8_first)]
theorem B4h {W:World} (h:W.ShapedOpen Xa):∃m,W.var? Xa "internal/bytealg.MaxLen" = some #[.int .i64 m]:=by
 obtain⟨h1,hr1⟩:=h;clear hr1;obtain⟨cs,hw,hsz,hok⟩:=h1 0 #[.int .i64 0] 3 (of_decide_eq_true (by kernel_rfl)) (by kernel_rfl);obtain⟨ts,hts,hnn,hc⟩:=hok (by kernel_rfl);have e1:cs.size=1:=hsz
 obtain⟨v,hv⟩:∃v,cs = #[v]:=by
  obtain⟨l⟩:=cs
  cases l with
  | nil=>cases e1
  | cons v r=>cases r with
   | nil=>exact⟨v,rfl⟩
   | cons _ _=>simp at e1
 subst hv;obtain⟨u,hu,hcell⟩:=hc 0 v rfl;have hts':ts=[3]:=Option.some.inj (hts.symm.trans (show Xa.cellTypes Xa.depth 3=some [3]by kernel_rfl));subst hts'
 have hu3:u=3:=by simpa using hu.symm
 subst hu3;unfold Cell.ok at hcell;have hun:=Tryz.underlying3;generalize Xa.underlying 3=d at hcell hun;subst hun;cases v<;>simp only at hcell
 case int kd nv=>
  obtain⟨rfl,hh⟩:=hcell;refine⟨nv,?_⟩;unfold World.var?
  rw[show Xa.globalNamed "internal/bytealg.MaxLen" = some 0 by kernel_rfl]
  simp only[Option.bind_some,hw]
theorem mN : "*errors.errorString" = "*" ++ "errors.errorString":=by decide
theorem mO (u:TypeId) (h:Xa.typeName? 3 u=some "*errors.errorString"):u=236:=
 typeName_ptr_named (nm:= "errors.errorString") (by rw[<-mN];kernel_rfl) (by kernel_rfl) (by decide) u (by rw[<-mN];exact h)
theorem RT {W:World} (h:laidMetH Xa Vs W) (hsh:W.ShapedOpen Xa):∃q:Gl,∀(g:Nat) (cs:List T),Aa (G q) g=some cs->Old W g/\EW (Old W) W cs g:=by
 have h0:laidMet Xa Vs W:=h
 have t:Lib.TabIs Xa W "internal/strconv.uint64pow10" .u64 XM:=Lib.tabIs_of_head (by kernel_rfl) (show(Xa.globals[5]?).map (·.type)=some 251 by kernel_rfl) Tryz.underlying251 Tryz.underlying147 (by kernel_rfl) (by kernel_rfl) h0.tail.tail
 obtain⟨m,hm⟩:=B4h hsh;obtain⟨a1,s1,v1,_⟩:=laid_sentinel (g:=2) (ti:=86) (tp:=236) (te:=238) (ts:=9) h0.tail.tail.tail.tail (by kernel_rfl) (by kernel_rfl) Xc mO Xd Xe rfl rfl Xb (by kernel_rfl) (by kernel_rfl);obtain⟨a0,s0,v0,_⟩:=laid_sentinel (g:=1) (ti:=86) (tp:=236) (te:=238) (ts:=9) h0.tail.tail.tail.tail.tail (by kernel_rfl) (by kernel_rfl) Xc mO Xd Xe rfl rfl Xb (by kernel_rfl) (by kernel_rfl);refine⟨⟨m,236,.pointer (some a0),236,.pointer (some a1)⟩,λg cs hl=>?_⟩;simp only[G,Aa]at hl;split at hl
 .rename_i e;subst e;injection hl with hl;subst hl;exact Qw (vs:=[.iface 236 (.pointer (some a0))]) v0 (by kernel_rfl) (by intro x hx;simp at hx;subst hx;rfl)
 .split at hl
  .rename_i e;subst e;injection hl with hl;subst hl;exact Qw (vs:=[.iface 236 (.pointer (some a1))]) v1 (by kernel_rfl) (by intro x hx;simp at hx;subst hx;rfl)
  .split at hl
   .rename_i e;subst e;injection hl with hl;subst hl;exact vL t (by kernel_rfl)
   .split at hl
    .rename_i e;subst e;injection hl with hl;subst hl;exact Qw (vs:=[.int .i64 m]) hm (by kernel_rfl) (by intro x hx;simp at hx;subst hx;rfl)
    .cases hl
def mP:Lit->Value
 | .int k n=>.int k n
 | _=>undef
def B4i:DataW Unit->List Value
 | .lit x=>[mP x]
 | .agg l=>l.flatMap fun | .lit x=>[mP x] | _=>[]
 | _=>[]
def P9:DataW Unit->List Value
 | .agg l=>l.flatMap B4i
 | _=>[]
noncomputable def low:Nat:=(World.holding Xa default ⟨#[],#[],[]⟩).heap.size
def Mf (h:Array Obj) (g:Nat) (cs:Array Value):Array Obj:=h.modify g fun
 | .cells _ t frozen=>.cells cs t frozen
 | o=>o
noncomputable def J3 (os:Os):World:=
 let w0:=World.holding Xa os ⟨#[.cells #[.string ⟨#[105,110,118,97,108,105,100,32,115,121,110,116,97,120]⟩] 238,.cells #[.string ⟨#[118,97,108,117,101,32,111,117,116,32,111,102,32,114,97,110,103,101]⟩] 238],#[],[]⟩
 { w0 with heap:=Mf (Mf (Mf (Mf (Mf (Mf (Mf w0.heap 1 #[.iface 236 (.pointer (some ⟨low,0,none⟩))]) 2 #[.iface 236 (.pointer (some ⟨low+1,0,none⟩))]) 3 (P9 Rows.laid_unicode_utf8_first).toArray) 4 (P9 Rows.laid_unicode_utf8_acceptRanges).toArray)
  5 (P9 Rows.laid_internal_strconv_uint64pow10).toArray) 6 (P9 Rows.laid_math_bits_deBruijn32tab).toArray) 7 (P9 Rows.laid_math_bits_deBruijn64tab).toArray }
theorem RU (os:Os) (args:Array Value):laidMet Xa Vs ((J3 os).forCall (λ_ _=>0) ⟨#[],args,[]⟩).memory:=
 laidMet_of_run' 8 (by kernel_rfl) (by kernel_rfl)
theorem PA {W:World} {base:Nat} {v:Value} (h:Value.okWide Xa W .any base 9 v):∃s,v = .string s/\s.size<=lim:=by
 obtain⟨s,rfl⟩:=okWide_string Xb h;refine⟨s,rfl,?_⟩;unfold Value.okWide at h;have hu:=Xb;unfold Cell.okWide Cell.ok at h;generalize Xa.underlying 9=d at h hu;subst hu;have h':(s.size:Int)<=Xf.max:=h
 have e:Xf.max=9223372036854775807:=by decide
 rw[e]at h';show s.size<=9223372036854775807;omega
open Go Go.Abs
variable {q : Gl}
def r3 {α:Type} (z:T) (g:α->T) (o:Res α):T:=match o with
 | .ok (x,p)=>.tu [g x,iv (p:Int),iv 0]
 | .error e=>.tu [z,iv 0,iv e]
end Go.Proofs.YtobnacghaamfoaaGreatDoor
