/- Auxiliary facts. -/
import Derived.Test.YtmgjopafgboljaaGreatDoorVEQ51
set_option linter.unusedSimpArgs false
set_option linter.unusedVariables false
namespace Go.Proofs.YtmgjopafgboljaaGreatDoor
open Go Go.Abs
variable {q : Gl}
theorem F1k {m:Mr} (hL:A7q A0h m) (hs:SmM m):SmM (numM m):=D3p (A9f hL) (fun x hx=>by
  obtain⟨y,hy,rfl⟩:=List.mem_map.1 hx;have:=hs.args y hy;show(y.args.map _).length<=_
  rw[List.length_map];exact this) (fun x hx=>by
  obtain⟨y,hy,rfl⟩:=List.mem_map.1 hx;obtain⟨h1,h2⟩:=hs.strs y hy;refine⟨h1,fun a ha=>?_⟩;obtain⟨b,hb,rfl⟩:=List.mem_map.1 ha
  exact h2 b hb)
end Go.Proofs.YtmgjopafgboljaaGreatDoor
