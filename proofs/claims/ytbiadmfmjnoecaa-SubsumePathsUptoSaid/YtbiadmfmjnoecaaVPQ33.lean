/-
 Auxiliary facts. No statement of the program stands here.
-/
import Derived.Test.YtbiadmfmjnoecaaVPQ29
import Derived.Test.YtbiadmfmjnoecaaProg
import Derived.Test.YtbiadmfmjnoecaaVPQ32
import Derived.JoinedCond
namespace Go.Proofs.Ytbiadmfmjnoecaa
set_option linter.unusedSimpArgs false
set_option linter.unusedVariables false
open Go Go.Abs Go.ChangeShapes Go.WideShapes Go.ChangeAt Go.RowKit
section
variable {H : Type} {enc : TypeId × Value -> H} {W : World} {spare : Nat -> Bool} {held : Bool}
theorem G2f:Rd enc Try.prog W spare held 81 fun b ts=>∃a:Arc,ts=eArc.enc a/\True:=
 (C1b Try.underlying81 rfl (by kernel_rfl) (by kernel_rfl) (F1o Try.underlying3) (F1o Try.underlying3)).mono fun b ts ⟨_,_,t0,t1,_,_,e,⟨n,e0⟩,⟨m,e1⟩⟩=>⟨⟨n,m⟩,by rw[e,e0,e1];rfl,trivial⟩
theorem F9z:Rd enc Try.prog W spare held 61 fun b ts=>∃x:Nd,ts=eNd.enc x/\x.arcs.length<=b:=
 (C1b Try.underlying61 rfl (by kernel_rfl) (by kernel_rfl) (F1o Try.underlying3) (B9e Try.underlying59 (by kernel_rfl) G2f)).mono fun b ts ⟨_,b1,t0,t1,_,h1,e,⟨n,e0⟩,⟨x,l,e1,hx,hl,_⟩⟩=>⟨⟨n,x,l,hx⟩,by rw[e,e0,e1];rfl,Nat.le_trans hl h1⟩
theorem rd_fs:Rd enc Try.prog W spare held 25 fun b ts=>∃x:FSv,ts=eFS.enc x/\x.nodes.length<=b/\∀y∈x.nodes,y.arcs.length<=b:=
 (E6k Try.underlying25 rfl (by kernel_rfl) (B9e Try.underlying23 (by kernel_rfl) F9z)).mono fun b ts ⟨b0,h0,x,l,e,hx,hl,ha⟩=>⟨⟨x,l,hx⟩,e,Nat.le_trans hl h0,fun y hy=>by
  obtain⟨b',h1,h2⟩:=ha y hy
  omega⟩
theorem G0a:Rd enc Try.prog W spare held 120 fun b ts=>∃x l,ts=[x]/\IsS eStr x l/\l.length<=b:=
 (B9e (e:=eStr) (R:=fun b s=>s.size<=b) Try.underlying120 (by kernel_rfl) ((E2l Try.underlying9).mono fun b ts ⟨s,e,h⟩=>⟨s,e,h⟩)).mono fun b ts ⟨x,l,e,hx,hl,_⟩=>⟨x,l,e,hx,hl⟩
theorem rd_fd:Rd enc Try.prog W spare held 128 fun b ts=>∃x:FD,ts=eFD.enc x/\x.feat.size<=b:=
 (C1b Try.underlying128 rfl (by kernel_rfl) (by kernel_rfl) (E2l Try.underlying9) (E2l Try.underlying9)).mono fun b ts ⟨_,_,t0,t1,h0,_,e,⟨n,e0,hn⟩,⟨m,e1,_⟩⟩=>⟨⟨n,m⟩,by rw[e,e0,e1];rfl,Nat.le_trans hn h0⟩
def TDb (b:Nat) (x:TD):Prop:=∃(ss:List Str) (fs:List FD),IsS eStr x.supers ss/\IsS eFD x.feats fs/\ss.length<=b/\fs.length<=b/\x.name.size<=b/\∀f∈fs,f.feat.size<=b
theorem rd_td:Rd enc Try.prog W spare held 123 fun b ts=>∃x:TD,ts=eTD.enc x/\TDb b x:=
 (E6l Try.underlying123 rfl rfl rfl (by kernel_rfl) (by kernel_rfl) (by kernel_rfl) (by kernel_rfl) (E2l Try.underlying9) G0a (B9e Try.underlying121 (by kernel_rfl) rd_fd)).mono
  fun b ts ⟨_,_,_,t0,t1,t2,h0,h1,h2,e,⟨n,e0,hn⟩,⟨x,l,e1,hx,hl⟩,⟨y,m,e2,hy,hm,hf⟩⟩=>⟨⟨n,x,y⟩,by rw[e,e0,e1,e2];rfl,l,m,hx,hy,Nat.le_trans hl h1,Nat.le_trans hm h2,Nat.le_trans hn h0,fun f hf'=>by
   obtain⟨b',g1,g2⟩:=hf f hf'
   omega⟩
theorem TDb.ok {b:Nat} {x:TD} (h:TDb b x) (hb:b<=cap):x.OK:=by
 obtain⟨ss,fs,h1,h2,h3,h4,h5,h6⟩:=h
 have e1:x.ss=ss:=TD.ss_eq h1
 have e2:x.fs=fs:=TD.fs_eq h2
 exact⟨by rw[e1];exact h1,by rw[e2];exact h2,by rw[e1];omega,by rw[e2];omega,by omega,by rw[e2];exact fun f hf=>by have:=h6 f hf;omega⟩
theorem E6u {v:Value} {d:DataW H} {p:List MemPlace} (h:DataW.Trod enc Try.prog W 0 spare held 22 v d p) {a:Option Addr} {len cap':Nat} (hv:v = .slice a len cap') (hb:Rows.uptoBulk d<=1048576) :
  ∃x l,IsS eTD x l/\(l.length<=12->DOK l)/\RepT (Old W) W x v:=by
 obtain⟨fuel,hf⟩:=h
 subst hv
 obtain⟨ts,hr,x,l,e,hx,hl,ha⟩:=B9e (P:=Try.prog) Try.underlying22 (by kernel_rfl) rd_td fuel _ d p hf
 refine⟨x,l,hx,fun h12=>⟨by omega,fun y hy=>?_⟩,?_⟩
 ·obtain⟨b',h1,h2⟩:=ha y hy
  exact h2.ok (by unfold cap;omega)
 ·have:=hr.1
  rw[e]at this
  simp only[Value.cells,RepL]at this
  obtain⟨z,zs,hz,h3,_⟩:=this
  simp at hz
  rw[hz.1]
  exact h3
theorem F2m {v:Value} {d:DataW H} {p:List MemPlace} (h:DataW.Trod enc Try.prog W 0 spare held 25 v d p) {us:Array Value} (hv:v = .agg us) :
  ∃x l,IsS eNd x l/\RepT (Old W) W (.ag [x]) v:=by
 obtain⟨fuel,hf⟩:=h
 subst hv
 obtain⟨ts,hr,x,e,_,_⟩:=rd_fs fuel _ d p hf
 refine⟨x.tree,x.nodes,x.ok,?_⟩
 simp only[RepT]
 refine⟨us,rfl,fun y hy=>hr.2 y (by simpa[Value.cells]using hy),?_⟩
 have:=hr.1
 rw[e]at this
 simpa[Value.cells,eFS]using this
end
end Go.Proofs.Ytbiadmfmjnoecaa
