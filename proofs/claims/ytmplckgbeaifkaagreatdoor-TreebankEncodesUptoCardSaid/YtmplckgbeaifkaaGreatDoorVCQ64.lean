/- Auxiliary facts. -/
import Derived.Test.YtmplckgbeaifkaaGreatDoorVCQ32
import Derived.Test.YtmplckgbeaifkaaGreatDoorVCQ56
import Derived.Test.YtmplckgbeaifkaaGreatDoorVCQ65
set_option linter.unusedSimpArgs false
set_option linter.unusedVariables false
namespace Go.Proofs.YtmplckgbeaifkaaGreatDoor
open Go Go.Abs
variable {q : Gl}
noncomputable def gEnc:List T->Option T:=g1 tTb fun b=>open Classical in if SmB b.ver b.items then some (encR b.tb)else none
theorem F2y {F:Nat} (H:∀{ver:ByteArray} {u:T} {l:List IC},IsS eIC u l->SmB ver l->A0v Tryz.prog (G q) F [.ag [sv ver,u]] (· = encR ⟨ver,l.map IC.x⟩)):GOK Tryz.prog (G q) F gEnc:=A4c fun a b r ha hr=>by
 split at hr
 ·rename_i h;injection hr with hr;subst hr;obtain⟨u,rfl,hu⟩:=ha;exact H hu h
 ·cases hr
theorem hEnc:GOK Tryz.prog (G q) 47 gEnc:=F2y C4i
theorem G1q {ver:ByteArray} {u:T} {l:List IC} (hu:IsS eIC u l) (hs:SmB ver l):gEnc [.ag [sv ver,u]]=some (encR ⟨ver,l.map IC.x⟩):=by
 show g1 _ _ _=_;rw[A5l (τ:=tTb) (x:=⟨ver,l⟩) ⟨u,rfl,hu⟩,if_pos hs];rfl
theorem TBI.enc {cs:List T} (b:TBI cs):gEnc [.ag cs]=some (encR b.tb):=by
 have:=G1q (ver:=b.ver) b.hu b.sm;rw[<-b.e]at this;exact this
end Go.Proofs.YtmplckgbeaifkaaGreatDoor
