/- Auxiliary facts. -/
import Derived.Test.YtmplckgbeaifkaaGreatDoorRows
import Derived.Test.YtmplckgbeaifkaaGreatDoorVCQ17
set_option linter.unusedSimpArgs false
set_option linter.unusedVariables false
namespace Go.Proofs.YtmplckgbeaifkaaGreatDoor
open Go Go.Abs Go.ChangeShapes Go.WideShapes Go.ChangeAt Go.RowKit
section
variable {H : Type} {enc : TypeId × Value -> H} {P : Program} {W : World} {spare : Nat -> Bool} {held : Bool}
def RdL (W:World) (ts:List T) (cs:List Value):Prop:=RepL (Old W) W ts cs/\∀x∈cs,x.oneCell'=true
def Rd (enc:TypeId×Value->H) (P:Program) (W:World) (spare:Nat->Bool) (held:Bool) (N:Nat) (t:TypeId) (Q:Nat->List T->Prop):Prop:=
 ∀fuel,fuel<N->∀cs x,DataW.trod enc P W 0 spare held fuel t cs=some x->∃ts,RdL W ts cs/\Q (Rows.uptoBulk x.1) ts
variable {N : Nat}
theorem C6u {t:TypeId} (ht:P.underlying t=some .string):Rd enc P W spare held N t fun b ts=>∃s:ByteArray,ts=[sv s]/\b=s.size+1:=by
 intro fuel _ cs x h;obtain⟨s,rfl,e,_⟩:=DataW.trod_string ht h;refine⟨[sv s],⟨by simp only[RepL,RepT];exact⟨_,_,rfl,rfl,rfl⟩,by simp[Value.oneCell']⟩,s,rfl,?_⟩;rw[e];simp only[Rows.uptoBulk];rfl
inductive F2 {α:Type} (R:Nat->α->Prop):List Nat->List α->Prop
 | nil:F2 R [] []
 | cons {b:Nat} {a:α} {bs:List Nat} {l:List α}:R b a->F2 R bs l->F2 R (b::bs) (a::l)
end
end Go.Proofs.YtmplckgbeaifkaaGreatDoor
