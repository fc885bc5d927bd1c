/- Auxiliary facts. -/
import Derived.Test.YtmgjopafgboljaaGreatDoorVEQ68
set_option linter.unusedSimpArgs false
set_option linter.unusedVariables false
namespace Go.Proofs.YtmgjopafgboljaaGreatDoor
open Go Go.Abs
variable {q : Gl}
noncomputable def gVl:List T->Option T
 | [.ag cs,.v (.int .i64 k)]=>open Classical in if h:(∃m,InM m cs)/\k<=1000 then some (bv (valB h.1.choose k))else none
 | _=>none
theorem D3v {m:Mr} {cs:List T} (h:InM m cs) {k:Int} (hk:k<=1000):gVl [.ag cs,iv k]=some (bv (valB m k)):=by
 have he:(∃m,InM m cs)/\k<=1000:=⟨⟨m,h⟩,hk⟩
 simp only[gVl];rw[dif_pos he,he.1.choose_spec.is.uniq h.is]
theorem hVl:GOK Tryz.prog (G q) 20 gVl:=λargs r hr=>by
 unfold gVl at hr;split at hr
 .split at hr
  .rename_i he;injection hr with hr;subst hr;exact B7w he.1.choose_spec he.2
  .cases hr
 .cases hr
noncomputable def gSm:List T->Option T
 | [.ag ca,.ag cb]=>open Classical in if h:(∃a,MtIn a ca/\full a)/\∃b,MtIn b cb/\full b then some (bv (A1r (A1l h.1.choose h.2.choose) h.1.choose h.2.choose).isSome)else none
 | _=>none
theorem C6h {a b:Mr} {ca cb:List T} (ha:MtIn a ca) (fa:full a) (hb:MtIn b cb) (fb:full b):gSm [.ag ca,.ag cb]=some (bv (A1r (A1l a b) a b).isSome):=by
 have he:(∃a,MtIn a ca/\full a)/\∃b,MtIn b cb/\full b:=⟨⟨a,ha,fa⟩,⟨b,hb,fb⟩⟩
 simp only[gSm];rw[dif_pos he,he.1.choose_spec.1.is.uniq ha.is,he.2.choose_spec.1.is.uniq hb.is]
theorem hSm:GOK Tryz.prog (G q) 25 gSm:=λargs r hr=>by
 unfold gSm at hr;split at hr
 .split at hr
  .rename_i he;injection hr with hr;subst hr;exact B7r he.1.choose_spec.1 he.2.choose_spec.1 he.1.choose_spec.2
  .cases hr
 .cases hr
end Go.Proofs.YtmgjopafgboljaaGreatDoor
