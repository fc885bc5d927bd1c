/- Auxiliary facts. -/
import Derived.Test.YtmplckgbeaifkaaGreatDoorVCQ53
import Derived.Test.YtmplckgbeaifkaaGreatDoorVCQ32
set_option linter.unusedSimpArgs false
set_option linter.unusedVariables false
namespace Go.Proofs.YtmplckgbeaifkaaGreatDoor
open Go Go.Abs
variable {q : Gl}
noncomputable def gGet:List T->Option T:=g2 tTb tStr fun b id=>open Classical in if A8c b.items/\b.items.length<=1000000 then some (getT id b.items)else none
theorem hGet:GOK Tryz.prog (G q) 42 gGet:=A6w fun a b tb id r ha hb hr=>by
 obtain rfl:b=sv id:=hb;split at hr
 ·rename_i h;injection hr with hr;subst hr;obtain⟨u,rfl,hu⟩:=ha;exact E1f hu h.1 h.2
 ·cases hr
theorem G1n {ver:ByteArray} {u:T} {l:List IC} (id:ByteArray) (hu:IsS eIC u l) (hs:A8c l) (hl:l.length<=1000000):gGet [.ag [sv ver,u],sv id]=some (getT id l):=by
 show g2 _ _ _ _=_;rw[A7u (τ:=tTb) (σ:=tStr) (x:=⟨ver,l⟩) ⟨u,rfl,hu⟩ rfl,if_pos ⟨hs,hl⟩]
noncomputable def gRmv:List T->Option T
 | [.ag [.v (.string v),u],.v (.string id)]=>((tSl eIC).dec u).bind fun l=>open Classical in if A8c l/\l.length<=1000000 then some (C4d v u id l)else none
 | _=>none
theorem F2p {F:Nat} (H:∀{ver id:ByteArray} {u:T} {l:List IC},IsS eIC u l->A8c l->l.length<=1000000->A0v Tryz.prog (G q) F [.ag [sv ver,u],sv id] (· = C4d ver u id l)):GOK Tryz.prog (G q) F gRmv:=fun args r h=>by
 unfold gRmv at h;split at h
 ·obtain⟨l,h2,h⟩:=Option.bind_eq_some_iff.1 h;split at h
  ·rename_i hn;injection h with h;subst h;exact H (Ty.is_dec h2) hn.1 hn.2
  ·cases h
 ·cases h
theorem hRmv:GOK Tryz.prog (G q) 44 gRmv:=F2p C4e
theorem G1o {ver:ByteArray} {u:T} {l:List IC} (id:ByteArray) (hu:IsS eIC u l) (hs:A8c l) (hl:l.length<=1000000):gRmv [.ag [sv ver,u],sv id]=some (C4d ver u id l):=by
 have h2:(tSl eIC).dec u=some l:=Ty.dec_is (τ:=tSl eIC) hu;show((tSl eIC).dec u).bind _=_;rw[h2,Option.bind_some,if_pos ⟨hs,hl⟩]
end Go.Proofs.YtmplckgbeaifkaaGreatDoor
