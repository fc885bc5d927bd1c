/- Auxiliary facts. -/
import Derived.Test.YtmplckgbeaifkaaGreatDoorVCQ56
import Derived.Test.YtmplckgbeaifkaaGreatDoorVCQ45
import Derived.Test.YtmplckgbeaifkaaGreatDoorVCQ41
set_option linter.unusedSimpArgs false
set_option maxRecDepth 100000
set_option maxHeartbeats 0
set_option linter.unusedVariables false
namespace Go.Proofs.YtmplckgbeaifkaaGreatDoor
open Go Go.Abs
variable {q : Gl}
def itE (x:It):Int:=if A0y false x.id=false then 1 else chkR x
theorem E5w (c:IC) (hs:SmI c.x):A0v Tryz.prog (G q) 74 [.ag c.cs] (· = iv (itE c.x)):=by
 have eN:=B4v hs.id;have eR:=F1h c hs;obtain⟨tw,td,k,nm,f,t,tk,ks,ecs,_⟩:=A1g c.ok
 obtain⟨id,hid⟩:∃id,id=c.x.id:=⟨_,rfl⟩
 have cdx:A0q (.t (.ag c.cs))=some [.t (sv id),.t tw,.t (iv c.x.state),.t td,.t (iv k),.t (sv nm),.t (iv f),.t (iv t),.t tk]:=by rw[ecs,hid];rfl
 obtain⟨Y,hY⟩:∃Y,Y=iRow id tw c.x.state td k nm f t tk:=⟨_,rfl⟩
 rw[<-hid]at eN;have y:=ldI id tw c.x.state td k nm f t tk (H:=[(0,Y)]) (b:=0) (by rw[hY];rfl)
 have ya:A0e true 9 [(0,Y)] (.ptr 0 0)=some (.t (.ag c.cs)):=by rw[y.a,ecs,hid]
 have C:Ctx Tryz.prog (G q) _:=(A0x.cons (hRNm (q:=q)) (.cons (hRst (q:=q)) .nil)).ctx mixed;unfold itE;refine E5f.call rfl ?_;(conv in C7t=>cbv);refine A0a C ?_;simp -implicitDefEqProofs [cdx];rw[show Row.cells 28 [.t (sv id),.t tw,.t (iv c.x.state),.t td,.t (iv k),.t (sv nm),.t (iv f),.t (iv t),.t tk]=Y from hY.symm]
 cases h1:A0y false c.x.id with
 | false=>
  rw[hid,h1]at eN;rw[<-hid]at eN;refine A0a C ?_;simp -implicitDefEqProofs [y.l0,eN]
 | true=>
  rw[hid,h1]at eN;rw[<-hid]at eN;refine A0a C ?_;simp -implicitDefEqProofs [y.l0,eN];refine A0c C ?_;simp -implicitDefEqProofs [ya,eR]
noncomputable def gRIt:List T->Option T:=g1 tIt fun c=>open Classical in if SmI c.x then some (iv (itE c.x))else none
theorem hRIt:GOK Tryz.prog (G q) 74 gRIt:=A4c fun a c r ha hr=>by
 split at hr
 ·rename_i h;injection hr with hr;subst hr;obtain rfl:a = .ag c.cs:=ha;exact E5w c h
 ·cases hr
theorem G1p (c:IC) (h:SmI c.x):gRIt [.ag c.cs]=some (iv (itE c.x)):=by
 show g1 _ _ _=_;rw[A5l (τ:=tIt) (x:=c) rfl,if_pos h]
end Go.Proofs.YtmplckgbeaifkaaGreatDoor
