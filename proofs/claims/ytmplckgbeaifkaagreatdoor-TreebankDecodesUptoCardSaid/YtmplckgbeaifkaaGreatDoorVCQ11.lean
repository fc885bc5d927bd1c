/- Auxiliary facts. -/
import Derived.Test.YtmplckgbeaifkaaGreatDoorVCQ09
set_option linter.unusedSimpArgs false
set_option linter.unusedVariables false
namespace Go.Abs
open Go
section
variable {α : Type} {P : Program} {G : A0w} {B : Nat}
theorem C8r {e:Enc α} {ty b k nx nx' n:Nat} {l:List α} {env env':List (Nat×PV)} {H:Heap} (h:A1h e ty H k l) (hb:b<nx') (hB:B<=b)
  (he:∀q∈env',look env q.1=some (ren (fun c=>if c=b then k else c) q.2)/\under nx' q.2=true) :
  Sub P G B ⟨env,H,nx,n⟩ ⟨env',rowH e ty b l,nx',n⟩:=by
 refine B2h (fun c=>if c=b then k else c) rfl (by show B<=nx';omega) (fun c hc=>by show(if c=b then k else c)=c;rw[if_neg (by omega)]) he (fun q hq=>?_) (fun q hq q' hq' _=>?_)
 ·obtain⟨hne,rfl⟩:=A4r hq;simp only[if_true,A2j,A1x];rcases h with h | h
  ·exact absurd h hne
  ·exact⟨h,hb,trivial⟩
 ·obtain⟨_,rfl⟩:=A4r hq;obtain⟨_,rfl⟩:=A4r hq';rfl
end
end Go.Abs
