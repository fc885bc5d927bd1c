/- Auxiliary facts. -/
import Derived.Test.YtmgjopafgboljaaGreatDoorVEQ37
import Derived.Test.YtmgjopafgboljaaGreatDoorVEQ19
set_option linter.unusedSimpArgs false
set_option linter.unusedVariables false
namespace Go.Abs
open Go
theorem F7p {m:Mr} (h:okV m) (hf:full m):Iso m (numM m) (rho m):=by
 have hl:(fsts m).length=m.vars.length:=by
  have h1:=D8u h;have hp:=A8e (l:=upN m.vars.length) (m:=fsts m) (A4q List.nodup_range fun i _ j _ e=>by omega) (fun x hx=>B2q.2 (hf x (A2h.1 hx))) (by rw[A2u];exact h1);have:=hp.length_eq;rw[A2u]at this;omega
 refine⟨?_,fun x hx=>?_,fun x y hx hy e=>E8s (hf x hx) (hf y hy) e,fun x hx=>?_,rfl,rfl,.refl _,.refl _⟩
 ·show _=((fsts m).map (vS m.vars)).length;rw[List.length_map,hl]
 ·obtain⟨n,h1,h2,_⟩:=C1x (hf x hx);rw[h1];exact⟨by omega,by omega⟩
 ·obtain⟨n,h1,h2,h3⟩:=C1x (hf x hx);show _=((fsts m).map (vS m.vars)).getD (rho m x).toNat _;rw[h1,Int.toNat_natCast,List.getD_eq_getElem?_getD (l:=(fsts m).map (vS m.vars)),List.getElem?_map,h3];rfl
end Go.Abs
