/- Auxiliary facts. -/
import Derived.Test.YtmgjopafgboljaaGreatDoorVEQ13
import Derived.Test.YtmgjopafgboljaaGreatDoorVEQ51
set_option linter.unusedSimpArgs false
set_option maxRecDepth 100000
set_option maxHeartbeats 0
set_option linter.unusedVariables false
open Nat renaming le_succ->Xc
namespace Go.Proofs.YtmgjopafgboljaaGreatDoor
open Go Go.Abs Go.ChangeShapes Go.WideShapes Go.ChangeAt Go.RowKit
section
variable {H : Type} {enc : TypeId × Value -> H} {W : World} {spare : Nat -> Bool} {held : Bool} {N : Nat}
theorem G3g:Rd enc Tryz.prog W spare held N 50 λb ts=>∃a:Ag,ts=eAg.enc a/\a.role.size<=b:=by
 refine(B5k (N:=N) (P:=Tryz.prog) Tryz.underlying50 ⟨rfl,by kernel_rfl,trivial⟩ (by kernel_rfl) (.cons (E6o Tryz.underlying9) (.cons (C4x Tryz.underlying3) .nil))).less (Xc N) |>.mono λb ts h=>?_
 obtain⟨_,rfl,b0,_,t0,_,rfl,rfl,⟨r,rfl,rfl⟩,b1,_,t1,_,rfl,rfl,⟨v,rfl,rfl,_⟩,rfl,rfl⟩:=h;exact⟨⟨r,v⟩,rfl,by show r.size<=_;omega⟩
theorem G3h:Rd enc Tryz.prog W spare held N 52 λb ts=>∃c:Qq,ts=eQq.enc c/\True:=by
 refine(B5k (N:=N) (P:=Tryz.prog) Tryz.underlying52 ⟨rfl,by kernel_rfl,trivial⟩ (by kernel_rfl) (.cons (C4x Tryz.underlying3) (.cons (C4x Tryz.underlying3) .nil))).less (Xc N) |>.mono λb ts h=>?_
 obtain⟨_,rfl,b0,_,t0,_,rfl,rfl,⟨h',rfl,rfl,_⟩,b1,_,t1,_,rfl,rfl,⟨l,rfl,rfl,_⟩,rfl,rfl⟩:=h;exact⟨⟨h',l⟩,rfl,trivial⟩
def BE (b:Nat) (x:Ep):Prop:=2<=b/\x.pred.size<=b/\∀a∈x.args,a.role.size<=b
theorem rd_ep:Rd enc Tryz.prog W spare held N 47 λb ts=>∃c:EC,ts=eEC.enc c/\BE b c.x:=by
 have ha:=(B9k (N:=N) (enc:=enc) (W:=W) (spare:=spare) (held:=held) (P:=Tryz.prog) (e:=eAg) (R:=λb a=>a.role.size<=b) Tryz.underlying45 (by kernel_rfl) G3g).less (Xc N)
 refine(B5k (N:=N) (P:=Tryz.prog) Tryz.underlying47 ⟨rfl,by kernel_rfl,by kernel_rfl,trivial⟩ (by kernel_rfl) (.cons (E6o Tryz.underlying9) (.cons (C4x Tryz.underlying3) (.cons ha .nil)))).less (Xc N) |>.mono λb ts h=>?_
 obtain⟨_,rfl,b0,_,t0,_,rfl,rfl,⟨p,rfl,rfl⟩,b1,_,t1,_,rfl,rfl,⟨l,rfl,rfl,_⟩,b2,_,t2,_,rfl,rfl,⟨u,ags,bs,rfl,hu,hF,hb⟩,rfl,rfl⟩:=h;refine⟨⟨⟨p,l,ags⟩,[sv p,iv l,u],u,rfl,hu⟩,rfl,by omega,by show p.size<=_;omega,λa ha=>?_⟩;obtain⟨b',h1,h2⟩:=hF.mem a ha;omega
theorem G3i:Rd enc Tryz.prog W spare held N 26 λb ts=>∃m:Mr,IsMr m ts/\2*m.rels.length<=b/\(∀x∈m.rels,x.pred.size<=b/\∀a∈x.args,a.role.size<=b)/\∀s∈m.vars,s.size<=b:=by
 have hv:=(B9k (N:=N) (enc:=enc) (W:=W) (spare:=spare) (held:=held) (P:=Tryz.prog) (e:=eStr) (R:=λb s=>s.size<=b) Tryz.underlying22 (by kernel_rfl) ((E6o Tryz.underlying9).mono λb ts ⟨s,e,h⟩=>⟨s,e,by omega⟩)).less (Xc N);have hr:=(B9k (N:=N) (enc:=enc) (W:=W) (spare:=spare) (held:=held) (P:=Tryz.prog) (e:=eEC) (R:=λb c=>BE b c.x) Tryz.underlying23 (by kernel_rfl) rd_ep).less (Xc N);have hc:=(B9k (N:=N) (enc:=enc) (W:=W) (spare:=spare) (held:=held) (P:=Tryz.prog) (e:=eQq) (R:=λ_ _=>True) Tryz.underlying24 (by kernel_rfl) G3h).less (Xc N)
 refine(B5k (N:=N) (P:=Tryz.prog) Tryz.underlying26 ⟨rfl,by kernel_rfl,by kernel_rfl,by kernel_rfl,by kernel_rfl,trivial⟩ (by kernel_rfl) (.cons (C4x Tryz.underlying3) (.cons (C4x Tryz.underlying3) (.cons hv (.cons hr (.cons hc .nil)))))).less (Xc N) |>.mono λb ts h=>?_
 obtain⟨_,rfl,b0,_,t0,_,rfl,rfl,⟨tp,rfl,rfl,_⟩,b1,_,t1,_,rfl,rfl,⟨ix,rfl,rfl,_⟩,b2,_,t2,_,rfl,rfl,⟨tv,vs,bv',rfl,hv,hvF,hvb⟩,b3,_,t3,_,rfl,rfl,⟨tr,rs,br,rfl,hr,hrF,hrb⟩,b4,_,t4,_,rfl,rfl,⟨tc,cs,bc,rfl,hc,_,hcb⟩,rfl,rfl⟩:=h;have l1:=hrF.len (k:=2) (λb a h=>h.1);refine⟨⟨tp,ix,vs,rs.map EC.x,cs⟩,⟨tv,tr,tc,rs,rfl,hv,hr,rfl,hc⟩,by show 2*(rs.map EC.x).length<=_;rw[List.length_map];omega,λx hx=>?_,λs hs=>?_⟩
 .obtain⟨c,hc',rfl⟩:=List.mem_map.1 hx;obtain⟨b',h1,h2,h3,h4⟩:=hrF.mem c hc';exact⟨by omega,λa ha=>by have:=h4 a ha;omega⟩
 .obtain⟨b',h1,h2⟩:=hvF.mem s hs;omega
theorem F9p {ts:List T} {us:Array Value} (h:RdL W ts us.toList):RepT (Old W) W (.ag ts) (.agg us):=by
 simp only[RepT];exact⟨us,rfl,h.2,h.1⟩
theorem A6c {v:Value} {d:DataW H} {p:List MemPlace} (h:DataW.Trod enc Tryz.prog W 0 spare held 26 v d p) {us:Array Value} (hv:v = .agg us) (hb:Rows.uptoBulk d<=1048576) :
  ∃(m:Mr) (cs:List T),InM m cs/\RepT (Old W) W (.ag cs) v:=by
 obtain⟨fuel,hf⟩:=h;subst hv;obtain⟨ts,hr,m,hm,h1,h2,h3⟩:=G3i (N:=fuel+1) fuel (by omega) _ (d,p) hf;have h1:2*m.rels.length<=Rows.uptoBulk d:=h1;have h2:∀x∈m.rels,x.pred.size<=Rows.uptoBulk d/\∀a∈x.args,a.role.size<=Rows.uptoBulk d:=h2;have h3:∀s∈m.vars,s.size<=Rows.uptoBulk d:=h3
 have hl:1048576<=lim:=by decide
 refine⟨m,ts,⟨hm,by omega,λx hx=>?_,λs hs=>?_⟩,F9p hr⟩
 .obtain⟨g1,g2⟩:=h2 x hx;exact⟨by omega,λa ha=>by have:=g2 a ha;omega⟩
 .have:=h3 s hs;omega
end
end Go.Proofs.YtmgjopafgboljaaGreatDoor
