/-
 Auxiliary facts. No statement of the program stands here.
-/
import Derived.Test.YtmplckgbeaifkaaGreatDoorVBQ13
namespace Go.Abs
set_option linter.unusedSimpArgs false
set_option linter.unusedVariables false
open Go
theorem E2u {x:It} {l:List Dv} (hs:x.state=1) (h1:oneL l x.decs=some x.gold) (h2:∀y∈x.decs,y.p∈disc l) (h3:x.decs.Pairwise fun a b=>a.p≠b.p):keep l [] x.decs=x.decs/\repI x l=x:=by
 obtain⟨m1,m2⟩:=B1u h1
 have hk:keep l [] x.decs=x.decs:=by
  have:=C5d (l:=l) (r:=x.decs) (out:=[]) ⟨by simpa using h2,by simpa using h3,.inr (B9r.2 ⟨_,m1,by simpa using m2⟩)⟩;simpa using this
 refine⟨hk,?_⟩;unfold repI;simp only[if_pos hs,hk,h1];rw[<-hs]
end Go.Abs
