/-
 Auxiliary facts. No statement of the program stands here.
-/
import Derived.Test.YtmplckgbeaifkaaGreatDoorVBQ13
namespace Go.Abs
set_option linter.unusedSimpArgs false
set_option linter.unusedVariables false
open Go
theorem B4f {l:List Dv}:∀{r out:List Dc},Kept l out->Kept l (keep l out r)
 | [],out,h=>h
 | d::r,out,h=>by
  rw[keep];split
  ·rename_i hd;obtain⟨h1,h2,h3⟩:=E2t.1 hd;refine B4f ⟨fun x hx=>?_,?_,.inr h3⟩
   ·rcases List.mem_append.1 hx with hx | hx
    ·exact h.dis x hx
    ·rw[List.mem_singleton.1 hx];exact h1
   ·refine List.pairwise_append.2 ⟨h.nod,List.pairwise_singleton _ _,fun a ha b hb=>?_⟩;rw[List.mem_singleton.1 hb];exact h2 a ha
  ·exact B4f h
theorem B1v {l:List Dv} {ds:List Dc}:keep l [] (keep l [] ds)=keep l [] ds:=by
 have h:=B4f (l:=l) (r:=ds) (out:=[]) ⟨fun x hx=>by simp at hx,List.Pairwise.nil,.inl rfl⟩;have:=C5d (l:=l) (r:=keep l [] ds) (out:=[]) (by simpa using h);simpa using this
theorem D8n (x:It) (l:List Dv):repI (repI x l) l=repI x l:=by
 unfold repI;by_cases h:x.state=1
 ·simp only[if_pos h]
  cases e:oneL l (keep l [] x.decs)with
  | some d=>simp[B1v,e]
  | none=>simp[B1v]
 ·simp[h,B1v]
theorem E9j {l:List Dv} {ds:List Dc} (h:l≠[]):(remD l (keep l [] ds)).isEmpty=false:=by
 rcases (B4f (l:=l) (r:=ds) (out:=[]) ⟨fun x hx=>by simp at hx,List.Pairwise.nil,.inl rfl⟩).rem with e | e
 ·rw[e,B9r]
  cases l with
  | nil=>exact absurd rfl h
  | cons d r=>exact⟨d,by simp,rfl⟩
 ·exact e
end Go.Abs
