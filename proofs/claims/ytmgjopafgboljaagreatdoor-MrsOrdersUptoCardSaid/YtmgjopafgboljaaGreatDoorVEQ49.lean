/- Auxiliary facts. -/
import Derived.Test.YtmgjopafgboljaaGreatDoorVEQ42
import Derived.Test.YtmgjopafgboljaaGreatDoorVEQ07
import Derived.Test.YtmgjopafgboljaaGreatDoorVEQ39
set_option linter.unusedSimpArgs false
set_option linter.unusedVariables false
namespace Go.Proofs.YtmgjopafgboljaaGreatDoor
open Go Go.Abs
theorem F1f {a b:Mr} (hv:a.vars=b.vars) (ht:a.top=b.top) (hi:a.index=b.index) (hr:a.rels.Perm b.rels) (hc:a.cons.Perm b.cons):Corr a b:=
 ⟨fun v=>v,by rw[hv],fun _ h=>h,fun _ _ _ _ h=>h,fun _ _=>by rw[hv],ht,hi,by rw[show mapE (fun v=>v)=id from funext C7g,List.map_id];exact hr,by rw[show mapQ (fun v=>v)=id from rfl,List.map_id];exact hc⟩
theorem E1f {a b:Mr} (ht:a.top=b.top) (hi:a.index=b.index) (hr:a.rels.Perm b.rels) (hc:a.cons.Perm b.cons) (x:Int):x∈occ a ↔ x∈occ b:=by
 simp only[occ,List.mem_cons,List.mem_append,List.mem_flatMap,ht,hi,hr.mem_iff,hc.mem_iff]
theorem F5a {a b:Mr} (ht:a.top=b.top) (hr:a.rels.Perm b.rels) (hc:a.cons.Perm b.cons) (x:Int):x∈hnd a ↔ x∈hnd b:=by
 simp only[hnd,List.mem_cons,List.mem_append,List.mem_flatMap,List.mem_map,ht,hr.mem_iff,hc.mem_iff]
theorem C6g {nm:Bool->ByteArray->Bool} {a b:Mr} (hv:a.vars=b.vars) (ht:a.top=b.top) (hi:a.index=b.index) (hr:a.rels.Perm b.rels) (hc:a.cons.Perm b.cons) (h:A7q nm a):A7q nm b:=
 ⟨by rw[<-hr.length_eq];exact h.rels,by rw[<-hc.length_eq];exact h.cons,by rw[<-hv];exact h.vars,by rw[<-hv];exact h.sorts,fun x hx=>h.preds x (hr.mem_iff.2 hx),
 fun x hx=>by rw[<-hv];exact h.ok x ((E1f ht hi hr hc x).2 hx),fun x hx=>by rw[<-hv];exact h.hnd x ((F5a ht hr hc x).2 hx)⟩
theorem E4u {a b:Mr} (hv:a.vars=b.vars) (ht:a.top=b.top) (hi:a.index=b.index) (hr:a.rels.Perm b.rels) (hc:a.cons.Perm b.cons) (h:A3c A0h a=0) :
  A3c A0h (numM b)=0/\∃p,A1r (A1l a (numM b)) a (numM b)=some p/\p.Nodup/\p.length=a.rels.length /\
   ∀(i k:Nat),p[i]?=some k->k<p.length/\((numM b).rels.getD k ⟨⟨#[]⟩,0,[]⟩).pred=(a.rels.getD i ⟨⟨#[]⟩,0,[]⟩).pred:=by
 obtain⟨hL,hN⟩:=A5t.1 h;have hLb:=C6g hv ht hi hr hc hL;have hfa:=D5q hN;have hfb:full b:=fun x hx=>(E1f ht hi hr hc x).1 (hfa x (by rw[hv];exact hx));have hcn:=E8u (A4j.2 hLb);have hcorr:Corr a (numM b):=(F1f hv ht hi hr hc).trans ⟨_,F7p hLb.ok hfb⟩;have hokn:=E7x hLb.ok;refine⟨hcn,?_⟩;have hs:=(B4g hL.ok hokn hfa).2 hcorr
 cases hm:A1r (A1l a (numM b)) a (numM b)with
 | none=>rw[hm]at hs;cases hs
 | some p=>
  obtain⟨w,hsol⟩:=B1h hL.ok hokn hm;have hl:=hsol.rels.len;have hbl:=hsol.rl;refine⟨p,rfl,hsol.nd,hl.symm,fun i k hk=>?_⟩
  have key:∀(l:List Ep) (p:List Nat) (i k:Nat),All2 (RelB (numM b).rels w) l p->p[i]?=some k->k<(numM b).rels.length/\((numM b).rels.getD k ⟨⟨#[]⟩,0,[]⟩).pred=(l.getD i ⟨⟨#[]⟩,0,[]⟩).pred:=by
   intro l
   induction l with
   | nil=>intro p i k h hk;cases h;simp at hk
   | cons x l ih=>
    intro p i k h hk
    cases h with
    | cons h1 h2=>
     cases i with
     | zero=>
      injection hk with hk;subst hk;obtain⟨g1,q,g2,_⟩:=h1;refine⟨g1,?_⟩;unfold A4i at g2;split at g2
      ·rename_i hc;exact hc.1.symm
      ·cases g2
     | succ i=>exact ih _ i k h2 (by simpa using hk)
  obtain⟨g1,g2⟩:=key a.rels p i k hsol.rels hk;exact⟨by omega,g2⟩
end Go.Proofs.YtmgjopafgboljaaGreatDoor
