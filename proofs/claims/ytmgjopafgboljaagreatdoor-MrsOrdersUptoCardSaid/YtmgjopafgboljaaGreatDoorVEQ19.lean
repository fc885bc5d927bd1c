/- Auxiliary facts. -/
import Derived.Test.YtmgjopafgboljaaGreatDoorVEQ17
set_option linter.unusedSimpArgs false
set_option linter.unusedVariables false
namespace Go.Abs
open Go
theorem D1a (σ τ:Int->Int) (x:Ep):mapE τ (mapE σ x)=mapE (fun v=>τ (σ v)) x:=by
 unfold mapE;simp only[List.map_map];rfl
theorem Corr.trans {a b c:Mr} (h:Corr a b) (k:Corr b c):Corr a c:=by
 obtain⟨σ,h⟩:=h;obtain⟨τ,k⟩:=k;have hl:=h.len;refine⟨fun v=>τ (σ v),h.len.trans k.len,fun x hx=>?_,fun x y hx hy e=>?_,fun x hx=>?_,by show τ (σ a.top)=_;rw[h.top,k.top],by show τ (σ a.index)=_;rw[h.index,k.index],?_,?_⟩
 ·rw[hl];exact k.rng _ (by rw[<-hl];exact h.rng x hx)
 ·exact h.inj x y hx hy (k.inj _ _ (by rw[<-hl];exact h.rng x hx) (by rw[<-hl];exact h.rng y hy) e)
 ·rw[h.sort x hx];exact k.sort _ (by rw[<-hl];exact h.rng x hx)
 ·have:=h.rels.map (mapE τ);rw[List.map_map]at this;rw[show mapE (fun v=>τ (σ v))=mapE τ∘mapE σ from funext fun x=>(D1a σ τ x).symm];exact this.trans k.rels
 ·have:=h.cons.map (mapQ τ);rw[List.map_map]at this;exact this.trans k.cons
end Go.Abs
