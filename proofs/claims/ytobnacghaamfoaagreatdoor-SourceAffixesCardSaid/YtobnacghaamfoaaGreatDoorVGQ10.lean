/- Auxiliary facts. -/
import Derived.Test.YtobnacghaamfoaaGreatDoorVGQ09
set_option linter.unusedSimpArgs false
set_option linter.unusedVariables false
open List renaming flatMap_cons->Xa
namespace Go.Abs
open Go
section
variable {α : Type}
variable {e : Enc α} {t : T} {l : List α}
theorem XL (e:Enc α):∀(l:List α) (k:Nat),(l.flatMap e.enc).take (k*e.z)=(l.take k).flatMap e.enc
 | [],k=>by simp
 | a::l,0=>by simp
 | a::l,k+1=>by
  rw[Xa,List.take_succ_cons,Xa,Nat.succ_mul,Nat.add_comm,<-e.len a,List.take_length_add_append,e.len a,XL e l k]
theorem IsS.slice_to (h:IsS e t l) {k:Nat} (hk:k<=l.length) (ik:IntKind):∃t',EY e.z (.t t) none (some (.t (.v (.int ik (k:Int)))))=some (.t t')/\IsS e t' (l.take k):=by
 rcases h with⟨rfl,rfl⟩ | rfl
 .have:k=0:=by simpa using hk
  subst this;exact⟨Ah,rfl,.inl ⟨rfl,rfl⟩⟩
 .refine⟨slT e (l.take k),?_,.inr rfl⟩
  have h0:¬(k:Int)<0:=by omega
  simp only[EY,slT,Cj];simp[hk,XL,Nat.min_eq_left hk]
end
end Go.Abs
