/- Auxiliary facts. -/
import Derived.Test.YtmgjopafgboljaaGreatDoorVEQ18
import Derived.Test.YtmgjopafgboljaaGreatDoorVEQ19
set_option linter.unusedSimpArgs false
set_option linter.unusedVariables false
namespace Go.Abs
open Go
theorem Corr.refl (a:Mr):Corr a a:=⟨fun v=>v,rfl,fun _ h=>h,fun _ _ _ _ h=>h,fun _ _=>rfl,rfl,rfl,by rw[show mapE (fun v=>v)=id from funext C7g,List.map_id],by rw[show mapQ (fun v=>v)=id from rfl,List.map_id]⟩
def invF (σ:Int->Int) (n:Nat) (y:Int):Int:=((upN n).find? fun x=>decide (σ x=y)).getD 0
theorem Iso.surj {a b:Mr} {σ:Int->Int} (h:Iso a b σ) {y:Int} (hy:inR a.vars.length y):∃x,inR a.vars.length x/\σ x=y:=by
 have hn:((upN a.vars.length).map σ).Nodup:=A4q (A4q List.nodup_range fun i _ j _ e=>by omega) fun x hx y hy e=>h.inj x y (A2h.1 hx) (A2h.1 hy) e
 have hp:=A8e hn (fun z hz=>by
  obtain⟨x,hx,rfl⟩:=List.mem_map.1 hz
  exact A2h.2 (h.rng x (A2h.1 hx))) (by simp)
 obtain⟨x,hx,e⟩:=List.mem_map.1 (hp.mem_iff.2 (A2h.2 hy));exact⟨x,A2h.1 hx,e⟩
theorem Iso.invL {a b:Mr} {σ:Int->Int} (h:Iso a b σ) {x:Int} (hx:inR a.vars.length x):invF σ a.vars.length (σ x)=x:=by
 unfold invF
 cases hf:(upN a.vars.length).find? fun z=>decide (σ z=σ x)with
 | none=>
  rw[List.find?_eq_none]at hf;exact absurd (decide_eq_true rfl) (hf x (A2h.2 hx))
 | some z=>
  have h1:=List.find?_some hf;have h2:=List.mem_of_find?_eq_some hf;exact h.inj z x (A2h.1 h2) hx (by simpa using h1)
theorem Iso.invR {a b:Mr} {σ:Int->Int} (h:Iso a b σ) {y:Int} (hy:inR a.vars.length y):inR a.vars.length (invF σ a.vars.length y)/\σ (invF σ a.vars.length y)=y:=by
 obtain⟨x,hx,rfl⟩:=h.surj hy;rw[h.invL hx];exact⟨hx,rfl⟩
theorem Corr.symm {a b:Mr} (ha:okV a) (h:Corr a b):Corr b a:=by
 obtain⟨σ,h⟩:=h;have hl:=h.len;refine⟨invF σ a.vars.length,hl.symm,fun x hx=>?_,fun x y hx hy e=>?_,fun x hx=>?_,?_,?_,?_,?_⟩
 ·rw[<-hl]at hx ⊢;exact(h.invR hx).1
 ·rw[<-hl]at hx hy;rw[<-(h.invR hx).2,<-(h.invR hy).2,e]
 ·rw[<-hl]at hx;obtain⟨h1,h2⟩:=h.invR hx;have:=h.sort _ h1;rw[h2]at this;exact this.symm
 ·rw[<-h.top];exact h.invL ha.top
 ·rw[<-h.index];exact h.invL ha.index
 ·have:=h.rels.map (mapE (invF σ a.vars.length));rw[List.map_map]at this
  have e:a.rels.map (mapE (invF σ a.vars.length)∘mapE σ)=a.rels:=by
   conv=>rhs;rw[<-List.map_id a.rels]
   refine List.map_congr_left fun x hx=>?_;rw[Function.comp_apply,D1a,id]
   conv=>rhs;rw[<-C7g x]
   exact C5g fun v hv=>h.invL (ha.rel hx hv)
  rw[e]at this;exact this.symm
 ·have:=h.cons.map (mapQ (invF σ a.vars.length));rw[List.map_map]at this
  have e:a.cons.map (mapQ (invF σ a.vars.length)∘mapQ σ)=a.cons:=by
   conv=>rhs;rw[<-List.map_id a.cons]
   refine List.map_congr_left fun x hx=>?_;show mapQ (fun v=>invF σ a.vars.length (σ v)) x=mapQ (fun v=>v) x;exact C5h fun v hv=>h.invL (ha.con hx hv)
  rw[e]at this;exact this.symm
end Go.Abs
