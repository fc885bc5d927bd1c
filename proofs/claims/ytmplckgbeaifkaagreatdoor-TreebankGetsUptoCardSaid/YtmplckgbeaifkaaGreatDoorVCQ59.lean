/- Auxiliary facts. -/
import Derived.Test.YtmplckgbeaifkaaGreatDoorVCQ32
import Derived.Test.YtmplckgbeaifkaaGreatDoorVCQ56
set_option linter.unusedSimpArgs false
set_option linter.unusedVariables false
namespace Go.Proofs.YtmplckgbeaifkaaGreatDoor
open Go Go.Abs
variable {q : Gl}
theorem bsC (c:IC) (m:Nat):A3l 28 9 [.string ⟨#[]⟩,.slice none 0 0,.int .i64 0,.slice none 0 0,.int .i64 0,.string ⟨#[]⟩,.int .i64 0,.int .i64 0,.slice none 0 0] 1 [(0,.t (.ag c.cs))] m=some (.row m 0 1 9,.cells 28 ((eIC.enc c).map .t)):=by
 obtain⟨tw,td,k,nm,f,t,tk,ks,ecs,_⟩:=A1g c.ok;have e:eIC.enc c=c.cs:=rfl;rw[e,ecs];exact bsI _ _ _ _ _ _ _ _ _ _
theorem appC {H0:Heap} {b:Nat} {out:List IC} (c:IC) {nx:Nat} (hr:A1h eIC 28 H0 b out) (hb:b<nx) (hl:out.length<=1000000) :
  ∃b' H' nx',appM 28 9 136 ((nx,.cells 28 ((eIC.enc c).map .t))::H0) (nx+1) (rowP eIC b out) (.row nx 0 1 9)=some (rowP eIC b' (out++[c]),H',nx')/\A1h eIC 28 H' b' (out++[c])/\nx+1<=b'/\(∀j,j≠b->j<nx->Abs.look H' j=Abs.look H0 j):=by
 obtain⟨b',H',nx',ap,r',_,le,lk,ge⟩:=A9a (e:=eIC) (ty:=28) (by':=136) (nx:=nx+1) (m:=[c]) (hr.cons (k:=nx) (r:=.cells 28 ((eIC.enc c).map .t)) (by omega)) (B2k (e:=eIC) (ty:=28) (b:=nx) c (by rw[look_cons,if_pos rfl])) (by simp;omega) (by simp;omega);exact⟨b',H',nx',ap,r',ge,fun j hj hlt=>by rw[lk j hj (by omega),look_cons,if_neg (by omega)]⟩
end Go.Proofs.YtmplckgbeaifkaaGreatDoor
