/-
 Auxiliary facts. No statement of the program stands here.
-/
import Derived.Test.YtbiadmfmjnoecaaVRQ29
import Derived.Test.YtbiadmfmjnoecaaProg
import Derived.Test.YtbiadmfmjnoecaaVRQ31
import Derived.JoinedCond
namespace Go.Proofs.Ytbiadmfmjnoecaa
set_option linter.unusedSimpArgs false
set_option linter.unusedVariables false
open Go Go.Abs Go.ChangeShapes Go.WideShapes Go.ChangeAt Go.RowKit
section
variable {H : Type} {enc : TypeId × Value -> H} {W : World} {spare : Nat -> Bool} {held : Bool}
theorem H1l:Rd enc Try.prog W spare held 81 fun b ts=>∃a:Arc,ts=eArc.enc a/\True:=
 (C3h Try.underlying81 rfl (by kernel_rfl) (by kernel_rfl) (F7y Try.underlying3) (F7y Try.underlying3)).mono fun b ts ⟨_,_,t0,t1,_,_,e,⟨n,e0⟩,⟨m,e1⟩⟩=>⟨⟨n,m⟩,by rw[e,e0,e1];rfl,trivial⟩
theorem G8m:Rd enc Try.prog W spare held 61 fun b ts=>∃x:Nd,ts=eNd.enc x/\x.arcs.length<=b:=
 (C3h Try.underlying61 rfl (by kernel_rfl) (by kernel_rfl) (F7y Try.underlying3) (C0y Try.underlying59 (by kernel_rfl) H1l)).mono fun b ts ⟨_,b1,t0,t1,_,h1,e,⟨n,e0⟩,⟨x,l,e1,hx,hl,_⟩⟩=>⟨⟨n,x,l,hx⟩,by rw[e,e0,e1];rfl,Nat.le_trans hl h1⟩
theorem rd_fs:Rd enc Try.prog W spare held 25 fun b ts=>∃x:FSv,ts=eFS.enc x/\x.nodes.length<=b/\∀y∈x.nodes,y.arcs.length<=b:=
 (F2n Try.underlying25 rfl (by kernel_rfl) (C0y Try.underlying23 (by kernel_rfl) G8m)).mono fun b ts ⟨b0,h0,x,l,e,hx,hl,ha⟩=>⟨⟨x,l,hx⟩,e,Nat.le_trans hl h0,fun y hy=>by
  obtain⟨b',h1,h2⟩:=ha y hy
  omega⟩
theorem G8n:Rd enc Try.prog W spare held 120 fun b ts=>∃x l,ts=[x]/\IsS eStr x l/\l.length<=b:=
 (C0y (e:=eStr) (R:=fun b s=>s.size<=b) Try.underlying120 (by kernel_rfl) ((E7p Try.underlying9).mono fun b ts ⟨s,e,h⟩=>⟨s,e,h⟩)).mono fun b ts ⟨x,l,e,hx,hl,_⟩=>⟨x,l,e,hx,hl⟩
theorem rd_fd:Rd enc Try.prog W spare held 128 fun b ts=>∃x:FD,ts=eFD.enc x/\x.feat.size<=b:=
 (C3h Try.underlying128 rfl (by kernel_rfl) (by kernel_rfl) (E7p Try.underlying9) (E7p Try.underlying9)).mono fun b ts ⟨_,_,t0,t1,h0,_,e,⟨n,e0,hn⟩,⟨m,e1,_⟩⟩=>⟨⟨n,m⟩,by rw[e,e0,e1];rfl,Nat.le_trans hn h0⟩
def TDb (b:Nat) (x:TD):Prop:=∃(ss:List Str) (fs:List FD),IsS eStr x.supers ss/\IsS eFD x.feats fs/\ss.length<=b/\fs.length<=b/\x.name.size<=b/\∀f∈fs,f.feat.size<=b
theorem rd_td:Rd enc Try.prog W spare held 123 fun b ts=>∃x:TD,ts=eTD.enc x/\TDb b x:=
 (F2o Try.underlying123 rfl rfl rfl (by kernel_rfl) (by kernel_rfl) (by kernel_rfl) (by kernel_rfl) (E7p Try.underlying9) G8n (C0y Try.underlying121 (by kernel_rfl) rd_fd)).mono
  fun b ts ⟨_,_,_,t0,t1,t2,h0,h1,h2,e,⟨n,e0,hn⟩,⟨x,l,e1,hx,hl⟩,⟨y,m,e2,hy,hm,hf⟩⟩=>⟨⟨n,x,y⟩,by rw[e,e0,e1,e2];rfl,l,m,hx,hy,Nat.le_trans hl h1,Nat.le_trans hm h2,Nat.le_trans hn h0,fun f hf'=>by
   obtain⟨b',g1,g2⟩:=hf f hf'
   omega⟩
theorem TDb.ok {b:Nat} {x:TD} (h:TDb b x) (hb:b<=cap):x.OK:=by
 obtain⟨ss,fs,h1,h2,h3,h4,h5,h6⟩:=h
 have e1:x.ss=ss:=TD.ss_eq h1
 have e2:x.fs=fs:=TD.fs_eq h2
 exact⟨by rw[e1];exact h1,by rw[e2];exact h2,by rw[e1];omega,by rw[e2];omega,by omega,by rw[e2];exact fun f hf=>by have:=h6 f hf;omega⟩
theorem F2t {v:Value} {d:DataW H} {p:List MemPlace} (h:DataW.Trod enc Try.prog W 0 spare held 22 v d p) {a:Option Addr} {len cap':Nat} (hv:v = .slice a len cap') (hb:Rows.uptoBulk d<=1048576) :
  ∃x l,IsS eTD x l/\(l.length<=12->DOK l)/\RepT (Old W) W x v:=by
 obtain⟨fuel,hf⟩:=h
 subst hv
 obtain⟨ts,hr,x,l,e,hx,hl,ha⟩:=C0y (P:=Try.prog) Try.underlying22 (by kernel_rfl) rd_td fuel _ d p hf
 refine⟨x,l,hx,fun h12=>⟨by omega,fun y hy=>?_⟩,?_⟩
 ·obtain⟨b',h1,h2⟩:=ha y hy
  exact h2.ok (by unfold cap;omega)
 ·have:=hr.1
  rw[e]at this
  simp only[Value.cells,RepL]at this
  obtain⟨z,zs,hz,h3,_⟩:=this
  simp at hz
  rw[hz.1]
  exact h3
theorem F8l {v:Value} {d:DataW H} {p:List MemPlace} (h:DataW.Trod enc Try.prog W 0 spare held 25 v d p) {us:Array Value} (hv:v = .agg us) :
  ∃x l,IsS eNd x l/\RepT (Old W) W (.ag [x]) v:=by
 obtain⟨fuel,hf⟩:=h
 subst hv
 obtain⟨ts,hr,x,e,_,_⟩:=rd_fs fuel _ d p hf
 refine⟨x.tree,x.nodes,x.ok,?_⟩
 simp only[RepT]
 refine⟨us,rfl,fun y hy=>hr.2 y (by simpa[Value.cells]using hy),?_⟩
 have:=hr.1
 rw[e]at this
 simpa[Value.cells,eFS]using this
end
end Go.Proofs.Ytbiadmfmjnoecaa
namespace Go.Abs
set_option linter.unusedSimpArgs false
set_option linter.unusedVariables false
open Go
section
variable {P : Program} {G : A1f} {B N : Nat} {Φ : A1c}
theorem E0p (hmix:P.follows .mixedOrders=true) (hΦ:Φ.Sound P G) {Q:Exit->A0b->Prop} {s:A0b} {id:Nat} {ops:Array Oper} {l:List Mini} (ha0:ops.toList.mapM (A2c P G N true ops)=some l)
  (can:(Nat->Bool)->A0b) (Ok:(Nat->Bool)->Prop) (hn:∀b,(can b).n=N)
  (back:∀(i:Nat) o,ops[i]?=some o->∀e∈o.after.toList,Region.binds .any e=true->e.on<i)
  (h0:Sub P G B s (can fun _=>false)) (ok0:Ok fun _=>false)
  (step:∀b,Ok b->∀(i:Nat) o m,ops[i]?=some o->l[i]?=some m->b i=false->(∀e∈o.after.toList,Region.binds .any e=true->b e.on=true) ->
   m.g=none/\∃r H' nx',A0m Φ (can b).H (can b).nx m.k (m.xs.map (·.ev (can b).env))=some (r,H',nx')/\Ok (fun j=>if i=j then true else b j) /\
    Sub P G B (({ can b with H:=H',nx:=nx' }:A0b).put m.dst r) (can fun j=>if i=j then true else b j))
  (stop:∀b,Ok b->(∀i,i<ops.size->b i=true)->Q .normal (can b)):A3l P G B (.region id ops true) Q s:=by
 intro L0 a0 w0 hi0
 have ha:=A3e ha0
 refine wp_region_any hmix ?_
 have main:∀(fuel:Nat) (S:Array Bool) (L:Loc) (a:Act) (w:World),S.size=ops.size->ops.size<=cnt S+fuel->Ok (fun i=>S.getD i false)->Interp P G B L (can fun i=>S.getD i false) a w ->
   Ext L0 s.H w0 L (can fun i=>S.getD i false).H w->(∀b,b<B->L.μ b=L0.μ b)->wpAny P .any ops (Post P G B Q L0 s.H w0) fuel S a w:=by
  intro fuel
  induction fuel with
  | zero=>
   intro S L a w hs hc hok hi hx hμ
   have hall:=D4h (S:=S) (by omega)
   refine⟨?_,_,L,stop _ hok (fun i hi=>hall i (by omega)),hi,hx,hμ⟩
   rw[List.eq_nil_iff_forall_not_mem]
   intro i hi
   obtain⟨h1,h2,_⟩:=A8q hi
   rw[A5u (by omega),hall i (by omega)]at h2
   cases h2
  | succ fuel ih=>
   intro S L a w hs hc hok hi hx hμ
   refine⟨fun hr=>⟨_,L,stop _ hok (fun i=>?_),hi,hx,hμ⟩,fun i hir=>?_⟩
   ·induction i using Nat.strongRecOn with
    | _ i ihi=>
     intro hil
     cases hS':S.getD i false with
     | true=>rfl
     | false=>
      exfalso
      have:i∈Region.ready .any ops S:=D4g (o:=ops[i]) (Array.getElem?_eq_getElem hil) (by rw[A5u (by omega)];exact hS')
       (fun e he hb=>by
        have:=back i _ (Array.getElem?_eq_getElem hil) e he hb
        exact ihi _ this (by omega))
      rw[hr]at this
      cases this
   ·obtain⟨hi1,hun,o,ho,hp⟩:=A8q hir
    rw[A5u (by omega)]at hun
    obtain⟨m,hm,hcomp⟩:=(ha.at_ i).1 o (by simpa using ho)
    obtain⟨hk,hdst,hd,hw⟩:=A5t hcomp
    obtain⟨hg,r,H',nx',he,hok',hsub⟩:=step _ hok i o m ho hm hun hp
    have hww:(can fun i=>S.getD i false).wants ops o=some true:=by rw[hw];simp[Mini.wants,hg]
    have hd':∀k,o.dst=some k->k<(can fun i=>S.getD i false).n:=fun k hk=>by rw[hn];exact hd k hk
    have hset:(fun j=>(S.setIfInBounds i true).getD j false)=fun j=>if i=j then true else S.getD j false:=by
     funext j
     exact A5b S i j (by omega)
    have hc':ops.size<=cnt (S.setIfInBounds i true)+fuel:=by rw[E2e (by omega) hun];omega
    unfold wpOp
    rw[ho]
    simp only
    rw[if_pos (hi.wants hww)]
    refine .inl (A2t ?_ (fun _ _ _ h=>h.elim) (B3l hΦ hk he L a w hi))
    rintro a' w' ⟨v,L',rfl,hr,hheap,rfl,hmo,hxx⟩
    have hi':=B5l hi hd' hr hheap hmo
    rw[<-hdst]at hi'
    obtain⟨L2,hi2,hx2,hμ2⟩:=hsub L' _ w' hi'
    rw[B7p]at hx2
    rw[hdst]at hi2
    refine ih _ L2 _ w' (by simpa using hs) hc' (by rw[hset];exact hok') (by rw[hset];exact hi2) (by rw[hset];exact(hx.trans hxx).trans hx2) (fun b hb=>?_)
    rw[hμ2 b hb,hmo.μ b (Nat.lt_of_lt_of_le hb hi.base),hμ b hb]
 obtain⟨hok,hm,hx⟩:=hi0.heap.of_heap (w':={ w0 with drawn:=w0.drawn+1 }) ⟨rfl,rfl,rfl⟩ rfl
 have hi0':Interp P G B L0 s a0 { w0 with drawn:=w0.drawn+1 }:=⟨hok,hi0.nx,hi0.base,hi0.size,hi0.defers,fun k u hu=>RepV.keep hm u (hi0.env k u hu)⟩
 obtain⟨L1,hi1,hx1,hμ1⟩:=h0 L0 a0 _ hi0'
 have hfalse:(fun i=>(Array.replicate ops.size false).getD i false)=fun _:Nat=>false:=by
  funext i
  simp only[Array.getD_eq_getD_getElem?,Array.getElem?_replicate]
  split<;>rfl
 refine main ops.size _ L1 a0 _ (by simp) (by omega) (by rw[hfalse];exact ok0) (by rw[hfalse];exact hi1) (by rw[hfalse];exact hx.trans hx1) hμ1
end
end Go.Abs
