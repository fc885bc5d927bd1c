/- Auxiliary facts. -/
import Derived.Test.YtmplckgbeaifkaaGreatDoorVCQ68
import Derived.Test.YtmplckgbeaifkaaGreatDoorVCQ44
set_option linter.unusedSimpArgs false
set_option maxRecDepth 100000
set_option maxHeartbeats 0
set_option linter.unusedVariables false
namespace Go.Proofs.YtmplckgbeaifkaaGreatDoor
open Go Go.Abs
variable {q : Gl}
theorem D8e {tb:List T} (b:TBI tb):A0v Tryz.prog (G q) 8 [.ag tb] (· = bv true):=by
 have eL:=b.lt;have eC:=b.ck;have eX:gEx []=some (bv true):=rfl;have cd:A0q (.t (.ag tb))=some (tb.map .t):=rfl
 obtain⟨X,hX⟩:∃X,X=Row.cells 39 (tb.map .t):=⟨_,rfl⟩
 have lX:∀H b,Abs.look H b=some X->A0e true 2 H (.ptr b 0)=some (.t (.ag tb)):=fun H k h=>ldT (h.trans (by rw[hX])) b.len;have C:Ctx Tryz.prog (G q) _:=(A0x.cons (hLB (q:=q)) (.cons (hChk (q:=q)) (.cons (D7p (q:=q)) (.cons (D4v (q:=q)) .nil)))).ctx mixed;refine B4k.call rfl ?_;(conv in A7o=>cbv);refine A0a C ?_;simp -implicitDefEqProofs [cd];rw[<-hX]
 cases hl:ltB b.tb with
 | false=>
  rw[hl]at eL;refine A0a C ?_;simp -implicitDefEqProofs [lX,eL,eX]
 | true=>
  rw[hl]at eL;refine A0a C ?_;simp -implicitDefEqProofs [lX,eL];refine A0c C ?_;simp -implicitDefEqProofs [lX,eC,eX]
end Go.Proofs.YtmplckgbeaifkaaGreatDoor
