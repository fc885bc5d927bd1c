/- Auxiliary facts. -/
import Derived.Test.YtmplckgbeaifkaaGreatDoorVCQ56
set_option linter.unusedSimpArgs false
set_option linter.unusedVariables false
namespace Go.Abs
open Go
theorem sNew {ty n:Nat} {z:List PV} {cs:List T} (hz:z.length=n) (hc:cs.length=n) (h1:n≠1) (H:Heap) (k:Nat):A0h n ((k,.cells ty z)::H) (.ptr k 0) (.t (.ag cs))=some ((k,.cells ty (cs.map .t))::H):=by
 have e:A0q (.t (.ag cs))=some (cs.map .t):=rfl
 have hs:A3h z 0 (cs.map PV.t)=cs.map .t:=by
  have hl:(cs.map PV.t).length=n:=by simpa using hc
  unfold A3h;split
  ·rename_i p hp;rw[hp]at hl;simp at hl;omega
  ·rw[List.take_zero,List.nil_append,List.drop_of_length_le (by omega),List.append_nil]
 simp only[A0h,e];simp[hz,hc,hs]
end Go.Abs
namespace Go.Proofs.YtmplckgbeaifkaaGreatDoor
open Go Go.Abs
variable {q : Gl}
noncomputable def gSB:List T->Option T:=g2 tTb tTb fun a b=>open Classical in if a.tb=b.tb/\a.items.length<=1000000/\∀c∈a.items,SmE c.x then some (bv true)else none
theorem hSB:GOK Tryz.prog (G q) 41 gSB:=A6w fun a b x y r ha hb hr=>by
 split at hr
 ·rename_i h;injection hr with hr;subst hr;obtain⟨u,rfl,hu⟩:=ha;obtain⟨u',rfl,hu'⟩:=hb;have hv:x.ver=y.ver:=congrArg Tb.ver h.1;have hi:x.items.map IC.x=y.items.map IC.x:=congrArg Tb.items h.1;rw[<-hv];exact B7y hu hu' hi h.2.1 h.2.2
 ·cases hr
theorem G5g {ver:ByteArray} {u u':T} {l l':List IC} (hu:IsS eIC u l) (hu':IsS eIC u' l') (h:l.map IC.x=l'.map IC.x) (hl:l.length<=1000000) (hs:∀c∈l,SmE c.x):gSB [.ag [sv ver,u],.ag [sv ver,u']]=some (bv true):=by
 show g2 _ _ _ _=_;rw[A7u (τ:=tTb) (σ:=tTb) (x:=⟨ver,l⟩) (y:=⟨ver,l'⟩) ⟨u,rfl,hu⟩ ⟨u',rfl,hu'⟩,if_pos ⟨by unfold TC.tb;rw[h],hl,hs⟩]
theorem TBI.sme {cs:List T} (b:TBI cs):∀c∈b.l,SmE c.x:=fun c hc=>(b.sm.items c hc).e
theorem TBI.same {cs cs':List T} (b:TBI cs) (b':TBI cs') (h:b.tb=b'.tb):gSB [.ag cs,.ag cs']=some (bv true):=by
 have hv:b.ver=b'.ver:=congrArg Tb.ver h;have hi:b.l.map IC.x=b'.l.map IC.x:=congrArg Tb.items h;have:=G5g (ver:=b.ver) b.hu b'.hu hi b.sm.len b.sme;rw[<-b.e]at this;rw[hv,<-b'.e]at this;exact this
end Go.Proofs.YtmplckgbeaifkaaGreatDoor
