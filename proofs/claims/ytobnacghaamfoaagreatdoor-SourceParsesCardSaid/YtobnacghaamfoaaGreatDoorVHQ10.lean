/- Auxiliary facts. -/
import Derived.Test.YtobnacghaamfoaaGreatDoorVHQ05
import Derived.ChangeSlices
import Derived.Below
import Derived.WalkKit
import Derived.ProofKit
import Derived.OpenShut
import Derived.Lib.LaidTab
set_option linter.unusedSimpArgs false
set_option linter.unusedVariables false
open Option renaming bind_some->Xa
open List renaming getElem?_eq_none->Xb
namespace Go.Abs
open Go Go.ChangeShapes Go.WideShapes Go.ChangeAt Go.RowKit
def Old (w:World) (b:Nat):Prop:=b<w.heap.size
theorem AA.true {P:Program} {G:Ay} {f:FuncId} {ts:List T} {W:World} {us:Array Value} (h:AA P G f ts (· = .v (.bool true)))
  (hG:∀g cs,Aa G g=some cs->Old W g/\Ev (Old W) W cs g) (hr:Ba (Old W) W ts us.toList) :
  Calls P f us W λe w'=>e = .returned (.bool true)/\Below W.heap.size W w':=by
 refine(h.2 (Old W) W us (λ_ hb=>hb) hG hr).mono λe w' ⟨v,r,I',he,hR,hv,ho,hs,hsame,_⟩=>?_;subst hR;simp only[An]at hv;subst hv;exact⟨he,⟨ho.1,ho.2.1,ho.2.2,hs,hsame⟩⟩
theorem Pg {P:Program} {W:World} {name:String} {g:Nat} {vs:List Value} (h:W.var? P name=some vs.toArray) (hg:P.globalNamed name=some g) (h1:∀x∈vs,x.oneCell'=true):Old W g/\Ev (Old W) W (vs.map .v) g:=by
 unfold World.var? at h;rw[hg]at h;simp only[Xa]at h;split at h
 .rename_i cs ty fz hw;injection h with h;subst h;refine⟨(Array.getElem?_eq_some_iff.1 hw).1,Bq.mk λj c hj=>?_,_,_,_,hw,by simp⟩;simp only[List.getElem?_map,Option.map_eq_some_iff]at hj;obtain⟨n,hn,rfl⟩:=hj;refine⟨n,?_,h1 n (List.mem_of_getElem? hn),by simp only[An]⟩;simp[World.cell?,hw,hn]
 .cases h
theorem Nq {I:Nat->Prop} {w:World}:∀{vs us:List Value},Ba I w (vs.map .v) us->us=vs
 | [],us,h=>by simpa only[List.map_nil,Ba]using h
 | v::vs,us,h=>by
  simp only[List.map_cons,Ba]at h;obtain⟨x,xs,rfl,hx,hxs⟩:=h;simp only[An]at hx;rw[hx,Nq hxs]
theorem rR {P:Program} {I:Nat->Prop} {W:World} {name:String} {g:Nat} {vs:List Value} (hg:P.globalNamed name=some g) (h:Ev I W (vs.map .v) g):W.var? P name=some vs.toArray:=by
 obtain⟨h,arr,ty,fz,hw,hn⟩:=h;unfold World.var?;rw[hg];simp only[Xa,hw,Option.some.injEq];apply Array.ext';refine List.ext_getElem? λj=>?_;by_cases hj:j<vs.length
 .obtain⟨x,hx,_,hr⟩:=h.at_ j (c:=.v vs[j]) (by simp[hj]);simp only[An]at hr;subst hr;simp only[World.cell?,hw,Nat.zero_add]at hx;simpa[hj]using hx
 .have:arr.size<=j:=by simp at hn;omega
  rw[Xb (by simpa using this),Xb (by simpa using hj)]
theorem rS {P:Program} {W:World} {name:String} {k:IntKind} {zs:List Int} {g:Nat} (h:Lib.TabIs P W name k zs) (hg:P.globalNamed name=some g):Old W g/\Ev (Old W) W (zs.map λn=>.v (.int k n)) g:=by
 have:=Pg (vs:=zs.map λz=>Value.int k z) h hg (λx hx=>by obtain⟨z,_,rfl⟩:=List.mem_map.1 hx;rfl);rwa[List.map_map]at this
theorem AA.lib {P:Program} {G:Ay} {f:FuncId} {vs:List Value} {r:Value} (hf:JP P f)
  (h:∀(I:Nat->Prop) (w:World),(∀g cs,Aa G g=some cs->I g/\Ev I w cs g)->Calls P f vs.toArray w λe w'=>e = .returned r/\Below w.heap.size w w'):AA P G f (vs.map .v) (· = .v r):=by
 refine⟨hf,λI w us hlt hglob hargs=>?_⟩
 have e:us=vs.toArray:=by
  have:=Nq hargs;rw[<-this]
 subst e;refine(h I w hglob).mono λe w' ⟨he,hb⟩=>?_;exact⟨r,_,I,he,rfl,by simp only[An],⟨hb.os,hb.tape,hb.output⟩,hb.size,hb.block,λ_ h=>h,λ_ h=>.inl h,λg hg=>Nat.lt_of_lt_of_le (hlt g hg) hb.size⟩
end Go.Abs
