/- Auxiliary facts. -/
import Derived.Test.YtmgjopafgboljaaGreatDoorVEQ24
import Derived.Test.YtmgjopafgboljaaGreatDoorVEQ17
set_option linter.unusedSimpArgs false
set_option linter.unusedVariables false
namespace Go.Abs
open Go
theorem E8s {m:Mr} {x y:Int} (hx:x∈occ m) (hy:y∈occ m) (h:rho m x=rho m y):x=y:=by
 obtain⟨n,h1,_,h2⟩:=C1x hx;obtain⟨k,h3,_,h4⟩:=C1x hy
 have:n=k:=by omega
 subst this;rw[h2]at h4;exact Option.some.inj h4
theorem C8d {g:Int->Int}:∀{l acc:List Int},(∀x∈acc++l,∀y∈acc++l,g x=g y->x=y)->fst1 (acc.map g) (l.map g)=(fst1 acc l).map g
 | [],acc,_=>by simp[fst1]
 | x::r,acc,h=>by
  rw[List.map_cons,fst1,fst1]
  have hm:g x∈acc.map g ↔ x∈acc:=by
   constructor
   ·intro hx;obtain⟨y,hy,e⟩:=List.mem_map.1 hx;exact h y (by simp[hy]) x (by simp) e▸hy
   ·exact List.mem_map_of_mem
  by_cases hx:x∈acc
  ·rw[if_pos (hm.2 hx),if_pos hx];exact C8d fun y hy z hz=>h y (by simp at hy ⊢;rcases hy with hy | hy<;>simp[hy]) z (by simp at hz ⊢;rcases hz with hz | hz<;>simp[hz])
  ·rw[if_neg (fun k=>hx (hm.1 k)),if_neg hx];have:=C8d (g:=g) (l:=r) (acc:=acc++[x]) fun y hy z hz=>h y (by simpa using hy) z (by simpa using hz);rw[List.map_append]at this;exact this
theorem E8t:∀{l pre:List Int},(pre++l).Nodup->l.map (fun x=>plc x 0 (pre++l))=(List.range l.length).map fun i=>((pre.length+i:Nat):Int)
 | [],pre,_=>rfl
 | x::r,pre,h=>by
  have e:pre++x::r=(pre++[x])++r:=by simp
  have h2:((pre++[x])++r).Nodup:=by rw[<-e];exact h
  rw[List.map_cons,List.length_cons,List.range_succ_eq_map,List.map_cons,List.map_map]
  have hx:plc x 0 (pre++x::r)=((pre.length+0:Nat):Int):=by
   obtain⟨n,h1,_,h3⟩:=C6z (x:=x) (l:=pre++x::r) (i:=0) (by simp);obtain⟨_,h4⟩:=E6n h1;rw[Nat.sub_zero]at h4
   have h5:(pre++x::r)[pre.length]?=some x:=by simp
   have:=(List.getElem?_inj (by omega:n<_) h).1 (h4.trans h5.symm);rw[h1,this];rfl
  rw[hx];congr 1;rw[e];rw[E8t h2];refine List.map_congr_left fun i _=>?_;simp only[Function.comp_apply,List.length_append,List.length_cons,List.length_nil];omega
theorem F3s (m:Mr):fsts (numM m)=upN (fsts m).length:=by
 have h1:=C8d (g:=rho m) (l:=occ m) (acc:=[]) fun x hx y hy=>E8s (by simpa using hx) (by simpa using hy);unfold fsts at h1 ⊢;rw[E7w];rw[List.map_nil]at h1;rw[h1];have h2:=E8t (l:=fsts m) (pre:=[]) (by simpa using C5m m);rw[List.nil_append]at h2;show(fsts m).map (rho m)=_;unfold rho;rw[h2];unfold upN;simp only[List.length_nil,Nat.zero_add];rfl
theorem B8t (m:Mr):A2q (numM m)=true:=by
 unfold A2q;rw[decide_eq_true_iff,F3s];show _=upN ((fsts m).map (vS m.vars)).length;rw[List.length_map]
section
variable {nm : Bool -> ByteArray -> Bool}
theorem E8u {m:Mr} (h:A4f nm m=0):A3c nm (numM m)=0:=A5t.2 ⟨A9f (A4j.1 h),B8t m⟩
end
end Go.Abs
