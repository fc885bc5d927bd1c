/- Auxiliary facts. -/
import Derived.Test.YtmplckgbeaifkaaGreatDoorVCQ43
import Derived.Test.YtmplckgbeaifkaaGreatDoorVCQ36
import Derived.Test.YtmplckgbeaifkaaGreatDoorVCQ53
import Derived.Test.YtmplckgbeaifkaaGreatDoorVCQ50
set_option linter.unusedSimpArgs false
set_option linter.unusedVariables false
namespace Go.Proofs.YtmplckgbeaifkaaGreatDoor
open Go Go.Abs
variable {q : Gl}
abbrev dvs (m:List DC):List Dv:=m.map DC.d
def SmR (c:IC) (m:List DC):Prop:=SmK (dvs m)/\c.x.decs.length<=200000
def dLa:Dv:=.mk 0 ⟨#[97]⟩ 0 1 []
def dLb:Dv:=.mk 0 ⟨#[98]⟩ 1 2 []
def dNp:Dv:=.mk 2 ⟨#[110,112]⟩ 0 2 [dLa,dLb]
def dVp:Dv:=.mk 2 ⟨#[118,112]⟩ 0 2 [dLa,dLb]
def xIt:It:=⟨⟨#[105]⟩,[⟨#[97]⟩,⟨#[98]⟩],1,[⟨⟨2,⟨#[110,112]⟩,0,2⟩,true⟩],dNp⟩
def xC:IC:=IC.of xIt
def mx1:List DC:=[DC.of dVp]
theorem sm1:SmR xC mx1:=⟨by unfold SmK;decide,by decide⟩
theorem F1j (c:IC):∀l:List IC,(putC c l).map IC.x=putI c.x (l.map IC.x)
 | []=>rfl
 | y::r=>by
  rw[putC,List.map_cons,putI];split
  ·rw[List.map_cons,F1j c r]
  ·split<;>rfl
theorem F1k (c:IC) (l:List IC):(putC c l).length<=l.length+1:=by
 have:=(B3x (x:=c.x) (l:=l.map IC.x)).2;rw[<-F1j,List.length_map,List.length_map]at this;exact this
theorem E1a {c:IC}:∀{l:List IC} {x:IC},x∈putC c l->x=c\/x∈l
 | [],x,h=>by simp[putC]at h;exact .inl h
 | y::r,x,h=>by
  rw[putC]at h;split at h
  ·rcases List.mem_cons.1 h with rfl | h
   ·exact .inr (by simp)
   ·rcases E1a h with h | h
    ·exact .inl h
    ·exact .inr (by simp[h])
  ·split at h
   ·rcases List.mem_cons.1 h with rfl | h
    ·exact .inl rfl
    ·exact .inr (by simp[h])
   ·rcases List.mem_cons.1 h with rfl | h
    ·exact .inl rfl
    ·exact .inr h
end Go.Proofs.YtmplckgbeaifkaaGreatDoor
