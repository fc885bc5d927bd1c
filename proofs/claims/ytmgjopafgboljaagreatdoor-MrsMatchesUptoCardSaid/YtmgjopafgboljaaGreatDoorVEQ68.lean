/- Auxiliary facts. -/
import Derived.Test.YtmgjopafgboljaaGreatDoorVEQ58
set_option linter.unusedSimpArgs false
set_option linter.unusedVariables false
namespace Go.Proofs.YtmgjopafgboljaaGreatDoor
open Go Go.Abs
variable {q : Gl}
theorem F1l {m:Mr} (h:A6o m 5=true):(occ m).length<=900:=by
 obtain⟨h1,h2,h3,h4⟩:=B6l h;have e:=C9b m
 have key:∀l:List Ep,(∀x∈l,x.args.length<=10)->nE l<=l.length*11:=λl=>by
  induction l with
  | nil=>intro _;exact Nat.le_refl _
  | cons x l ih=>
   intro h;have g1:=h x (by simp);have g2:=ih λy hy=>h y (by simp[hy]);rw[nE,List.length_cons,Nat.succ_mul];omega
 have k:=key m.rels h4;have:m.rels.length*11<=5*11:=Nat.mul_le_mul_right 11 (by omega);omega
theorem B7x {m:Mr} {cs:List T} (h:InM m cs) (hv:valB m 5=true):MtIn m cs/\full m:=by
 obtain⟨hl,hc⟩:=C9g hv;exact⟨⟨h.is,h.sm hl (by omega),(A5t.1 hc).1,F1l hl⟩,(C2a hc).2⟩
end Go.Proofs.YtmgjopafgboljaaGreatDoor
