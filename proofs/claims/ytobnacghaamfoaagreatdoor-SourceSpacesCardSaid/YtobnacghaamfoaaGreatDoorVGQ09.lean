/- Auxiliary facts. -/
import Derived.Test.YtobnacghaamfoaaGreatDoorVGQ08
set_option linter.unusedSimpArgs false
set_option linter.unusedVariables false
open Bool renaming and_eq_true->Xa
namespace Go.Abs
open Go
theorem Oe {z:Int} (h1:0<=z) (h2:z<18446744073709551616):IntKind.u64.wrap z=z:=by
 unfold IntKind.wrap IntKind.bits IntKind.signed;simp only[Bool.false_and,Bool.false_eq_true,if_false]
 have e1:(2:Int)^64=18446744073709551616:=by decide
 rw[e1];omega
def Qn:Ty Bool:=⟨λt n=>t=bv n,λt a b h h'=>by rw[h]at h';injection h' with h';injection h'⟩
section
variable {α : Type} {P : Program} {G : A2} {B : Nat}
theorem XK {e:Enc α} {ty b k nx nx' n:Nat} {l:List α} {env env':List (Nat×PV)} {H:Ab} (h:Ay e ty H k l) (hb:b<nx') (hB:B<=b)
  (he:∀q∈env',Aa env q.1=some (ren (λc=>if c=b then k else c) q.2)/\under nx' q.2=true) :
  Sub P G B ⟨env,H,nx,n⟩ ⟨env',A4 e ty b l,nx',n⟩:=by
 refine JD (λc=>if c=b then k else c) rfl (by show B<=nx';omega) (λc hc=>by show(if c=b then k else c)=c;rw[zz (by omega)]) he (λq hq=>?_) (λq hq q' hq' _=>?_)
 .obtain⟨hne,rfl⟩:=Fc hq;simp only[if_true,HG,HH];rcases h with h | h
  .exact absurd h hne
  .exact⟨h,hb,trivial⟩
 .obtain⟨_,rfl⟩:=Fc hq;obtain⟨_,rfl⟩:=Fc hq';rfl
theorem rI {nx nx' n:Nat} {env env':List (Nat×PV)} {H:Ab} (hB:B<=nx') (he:∀q∈env',Aa env q.1=some q.2/\under 0 q.2=true) :
  Sub P G B ⟨env,H,nx,n⟩ ⟨env',[],nx',n⟩:=by
 have key:∀(p:PV),under 0 p=true->ren id p=p/\under nx' p=true:=by
  intro p hp;constructor
  .have:(∀p:PV,ren id p=p)/\(∀ps:List PV,Bn id ps=ps):=by
    constructor
    .intro p
     exact PV.rec (motive_1:=λp=>ren id p=p) (motive_2:=λps=>Bn id ps=ps) (λx=>rfl) (λb o n z=>rfl) (λb o=>rfl) (λcs ih=>by simp only[ren,ih]) (λcs ih=>by simp only[ren,ih])
      (λf a c ih1 ih2=>by simp only[ren,ih1,ih2]) (λt x ih=>by simp only[ren,ih]) (λb=>rfl) rfl rfl (λp ps h1 h2=>by simp only[Bn,h1,h2]) p
    .intro ps
     exact PV.rec_1 (motive_1:=λp=>ren id p=p) (motive_2:=λps=>Bn id ps=ps) (λx=>rfl) (λb o n z=>rfl) (λb o=>rfl) (λcs ih=>by simp only[ren,ih]) (λcs ih=>by simp only[ren,ih])
      (λf a c ih1 ih2=>by simp only[ren,ih1,ih2]) (λt x ih=>by simp only[ren,ih]) (λb=>rfl) rfl rfl (λp ps h1 h2=>by simp only[Bn,h1,h2]) ps
   exact this.1 p
  .exact(PV.rec (motive_1:=λp=>under 0 p=true->under nx' p=true) (motive_2:=λps=>B8 0 ps=true->B8 nx' ps=true) (λx _=>rfl) (λb o n z h=>by simp[under]at h) (λb o h=>by simp[under]at h)
    (λcs ih h=>by simp only[under]at h ⊢;exact ih h) (λcs ih h=>by simp only[under]at h ⊢;exact ih h) (λf a c ih1 ih2 h=>by simp only[under,Xa]at h ⊢;exact⟨ih1 h.1,ih2 h.2⟩)
    (λt x ih h=>by simp only[under]at h ⊢;exact ih h) (λb h=>by simp[under]at h) (λ_=>rfl) (λ_=>rfl) (λp ps h1 h2 h=>by simp only[B8,Xa]at h ⊢;exact⟨h1 h.1,h2 h.2⟩) p) hp
 refine JD id rfl hB (λ_ _=>rfl) (λq hq=>?_) (λq hq=>by simp at hq) (λq hq=>by simp at hq);obtain⟨h1,h2⟩:=he q hq;obtain⟨h3,h4⟩:=key q.2 h2;rw[h3];exact⟨h1,h4⟩
end
end Go.Abs
