/-
 Auxiliary facts. No statement of the program stands here.
-/
import Derived.Test.YtmplckgbeaifkaaGreatDoorVBQ12
namespace Go.Abs
set_option linter.unusedSimpArgs false
set_option linter.unusedVariables false
open Go
theorem C3b {ds:List Dc}:∀{l:List Dv} {i:Nat},remF i l ds=[] ↔ ∀d∈l,agr ds d=false
 | [],i=>by simp[remF]
 | d::r,i=>by
  rw[remF]
  cases h:agr ds d with
  | true=>simp[h]
  | false=>
   rw[if_neg (by simp),C3b];simp[h]
theorem B9r {l:List Dv} {ds:List Dc}:(remD l ds).isEmpty=false ↔ ∃d∈l,agr ds d=true:=by
 rw[<-Bool.not_eq_true,List.isEmpty_iff,remD,C3b];constructor
 ·intro h;by_cases k:∃d∈l,agr ds d=true
  ·exact k
  ·exact absurd (fun d hd=>by
    cases h2:agr ds d with
    | false=>rfl
    | true=>exact absurd ⟨d,hd,h2⟩ k) h
 ·rintro⟨d,hd,h⟩ k;rw[k d hd]at h;cases h
theorem D8m {a b:List Dc} {d:Dv}:agr (a++b) d=(agr a d&&agr b d):=by simp[agr]
structure Kept (l:List Dv) (ds:List Dc):Prop where
 dis:∀x∈ds,x.p∈disc l
 nod:ds.Pairwise fun a b=>a.p≠b.p
 rem:ds=[]\/(remD l ds).isEmpty=false
theorem E2t {l:List Dv} {out:List Dc} {d:Dc}:okD l out d=true ↔ d.p∈disc l/\(∀y∈out,y.p≠d.p)/\(remD l (out++[d])).isEmpty=false:=by
 unfold okD;rw[Bool.and_eq_true,Bool.and_eq_true,decide_eq_true_iff,Bool.not_eq_true',Bool.not_eq_true',and_assoc]
 have:(out.any fun y=>decide (y.p=d.p))=false ↔ ∀y∈out,y.p≠d.p:=by
  rw[List.any_eq_false];constructor
  ·intro h y hy e;exact h y hy (decide_eq_true e)
  ·intro h y hy e;exact h y hy (of_decide_eq_true e)
 rw[this]
theorem C5d {l:List Dv}:∀{r out:List Dc},Kept l (out++r)->keep l out r=out++r
 | [],out,_=>by simp[keep]
 | d::r,out,h=>by
  have e:out++d::r=(out++[d])++r:=by simp
  have hd:okD l out d=true:=by
   refine E2t.2 ⟨h.dis d (by simp),fun y hy=>?_,?_⟩
   ·exact(List.pairwise_append.1 h.nod).2.2 y hy d (by simp)
   ·rcases h.rem with h0 | h0
    ·simp at h0
    ·rw[B9r]at h0 ⊢;obtain⟨x,hx,ha⟩:=h0;refine⟨x,hx,?_⟩;rw[e,D8m,Bool.and_eq_true]at ha;exact ha.1
  rw[keep,if_pos hd,e];exact C5d (e▸h)
end Go.Abs
