/-
 Auxiliary facts. No statement of the program stands here.
-/
import Derived.Test.YtmplckgbeaifkaaGreatDoorVBQ50
namespace Go.Proofs.YtmplckgbeaifkaaGreatDoor
set_option linter.unusedSimpArgs false
set_option linter.unusedVariables false
open Go Go.Abs Go.ChangeShapes Go.WideShapes Go.ChangeAt Go.RowKit
section
variable {H : Type} {enc : TypeId × Value -> H} {W : World} {spare : Nat -> Bool} {held : Bool} {N : Nat}
theorem D4g:Rd enc Tryz.prog W spare held N 40 fun b ts=>∃x l bs,ts=[x]/\IsS eRD x l/\F2 (fun _ _=>True) bs l/\bs.sum+1<=b:=
 (B1w (e:=eRD) (R:=fun _ _=>True) Tryz.underlying40 (by kernel_rfl) (D0x.mono fun b ts ⟨x,l,_,e,hx,_,_⟩=>⟨⟨x,l,hx⟩,e,trivial⟩)).less (Nat.le_succ N)
set_option maxRecDepth 100000 in
theorem F6d:Rd enc Tryz.prog W spare held N 39 fun b ts=>∃(ver:ByteArray) (u:T) (l:List IC),ts=[sv ver,u]/\IsS eIC u l/\ver.size<=b/\11*l.length<=b/\∀c∈l,∃b',b'<=b/\Bi b' c.x:=by
 have hi:=(B1w (N:=N) (enc:=enc) (W:=W) (spare:=spare) (held:=held) (P:=Tryz.prog) (e:=eIC) (R:=fun b c=>Bi b c.x) Tryz.underlying37 (by kernel_rfl) E7y).less (Nat.le_succ N)
 refine(B0t (N:=N) (P:=Tryz.prog) Tryz.underlying39 ⟨rfl,by kernel_rfl,trivial⟩ (by kernel_rfl) (.cons (C9c Tryz.underlying9) (.cons hi .nil))).less (Nat.le_succ N) |>.mono fun b ts h=>?_
 obtain⟨_,rfl,b0,_,t0,_,rfl,rfl,⟨ver,rfl,rfl⟩,b1,_,t1,_,rfl,rfl,⟨u,l,bs,rfl,hu,hF,hb⟩,rfl,rfl⟩:=h;have l1:=hF.len (k:=11) (fun b a h=>h.big);refine⟨ver,u,l,rfl,hu,by omega,by omega,fun c hc=>?_⟩;obtain⟨b',h1,h2⟩:=hF.mem c hc;exact⟨b',by omega,h2⟩
theorem B5c {v:Value} {d:DataW H} {p:List MemPlace} (h:DataW.Trod enc Tryz.prog W 0 spare held 40 v d p) {a:Option Addr} {len cap':Nat} (hv:v = .slice a len cap') :
  ∃x l,IsS eRD x l/\RepT (Old W) W x v:=by
 obtain⟨fuel,hf⟩:=h;subst hv;obtain⟨ts,hr,x,l,bs,rfl,hx,hF,hB⟩:=D4g (N:=fuel+1) fuel (by omega) _ (d,p) hf;exact⟨x,l,hx,E7z hr⟩
theorem D1b {v:Value} {d:DataW H} {p:List MemPlace} (h:DataW.Trod enc Tryz.prog W 0 spare held 39 v d p) {us:Array Value} (hv:v = .agg us) (hb:Rows.uptoBulk d<=1048576) :
  ∃(ver:ByteArray) (u:T) (l:List IC),IsS eIC u l/\SmB ver l/\(∀c∈l,c.x.decs.length<=200000)/\RepT (Old W) W (.ag [sv ver,u]) v:=by
 obtain⟨fuel,hf⟩:=h;subst hv;obtain⟨ts,hr,ver,u,l,rfl,hu,h1,h2,h3⟩:=F6d (N:=fuel+1) fuel (by omega) _ (d,p) hf;have h1:ver.size<=Rows.uptoBulk d:=h1;have h2:11*l.length<=Rows.uptoBulk d:=h2;refine⟨ver,u,l,hu,⟨by unfold lim;omega,by omega,fun c hc=>?_⟩,fun c hc=>?_,E8a hr⟩
 ·obtain⟨b',g1,g2⟩:=h3 c hc;have g1:b'<=Rows.uptoBulk d:=g1;exact g2.sm (by omega)
 ·obtain⟨b',g1,g2⟩:=h3 c hc;have g1:b'<=Rows.uptoBulk d:=g1;exact g2.decs' (by omega)
end
end Go.Proofs.YtmplckgbeaifkaaGreatDoor
