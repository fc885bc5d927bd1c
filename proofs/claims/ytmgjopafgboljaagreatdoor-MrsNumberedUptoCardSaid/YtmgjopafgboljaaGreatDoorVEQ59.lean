/- Auxiliary facts. -/
import Derived.Test.YtmgjopafgboljaaGreatDoorVEQ48
set_option linter.unusedSimpArgs false
set_option linter.unusedVariables false
namespace Go.Proofs.YtmgjopafgboljaaGreatDoor
open Go Go.Abs
variable {q : Gl}
section
variable {m : Mr} {cs : List T}
theorem sM {cs:List T} (h5:cs.length=5) (k:Nat) (H:Heap):A0x 5 ((k,.cells tyMr [.t (iv 0),.t (iv 0),.t nilS,.t nilS,.t nilS])::H) (.ptr k 0) (.t (.ag cs))=some ((k,mRow cs)::H):=by
 match cs,h5 with
 | [a,b,c,d,e],_=>
  rw[st5 (cs:=[.t (iv 0),.t (iv 0),.t nilS,.t nilS,.t nilS]) (by rw[look_cons,if_pos rfl]) rfl];simp[Abs.upd]
theorem lM5 {cs:List T} (h5:cs.length=5) {H:Heap} {k:Nat} (hk:Abs.look H k=some (mRow cs)):A0t true 5 H (.ptr k 0)=some (.t (.ag cs)):=by
 match cs,h5 with
 | [a,b,c,d,e],_=>exact(ldM hk).all
end
end Go.Proofs.YtmgjopafgboljaaGreatDoor
