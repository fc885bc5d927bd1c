/- Auxiliary facts. -/
import Derived.Test.YtmgjopafgboljaaGreatDoorVEQ36
import Derived.Test.YtmgjopafgboljaaGreatDoorVEQ37
import Derived.Test.YtmgjopafgboljaaGreatDoorVEQ18
set_option linter.unusedSimpArgs false
set_option linter.unusedVariables false
namespace Go.Abs
open Go
theorem G1c {m:Mr} (h:A2q m=true) {x:Int} (hx:x∈occ m):rho m x=x:=by
 have h:=of_decide_eq_true h;obtain⟨n,h1,h2,h3⟩:=C1x hx;rw[h]at h3 h2;rw[A2u]at h2;unfold upN at h3;rw[List.getElem?_map,List.getElem?_range h2]at h3;injection h3 with h3;rw[h1];exact h3
theorem F5j {m:Mr} (h:A2q m=true):numM m=m:=by
 have hr:=fun x hx=>G1c h (x:=x) hx;have h':=of_decide_eq_true h;unfold numM;obtain⟨t,i,vs,rs,cs⟩:=m;simp only at h' ⊢;congr 1
 ·exact hr t (by simp[occ])
 ·exact hr i (by simp[occ])
 ·rw[h'];exact E8r vs
 ·conv=>rhs;rw[<-List.map_id rs]
  refine List.map_congr_left fun x hx=>?_;rw[id]
  conv=>rhs;rw[<-C7g x]
  refine C5g fun v hv=>hr v ?_;simp only[occ,List.mem_cons,List.mem_append,List.mem_flatMap];exact .inr (.inr (.inl ⟨x,hx,hv⟩))
 ·conv=>rhs;rw[<-List.map_id cs]
  refine List.map_congr_left fun c hc=>?_;show mapQ _ c=mapQ (fun v=>v) c;refine C5h fun v hv=>hr v ?_;simp only[occ,List.mem_cons,List.mem_append,List.mem_flatMap];exact .inr (.inr (.inr ⟨c,hc,hv⟩))
end Go.Abs
