/-
 Auxiliary facts. No statement of the program stands here.
-/
import Derived.Test.YtbiadmfmjnoecaaVAQ29
import Derived.Test.YtbiadmfmjnoecaaProg
import Derived.Test.YtbiadmfmjnoecaaVAQ32
import Derived.JoinedCond
namespace Go.Proofs.Ytbiadmfmjnoecaa
set_option linter.unusedSimpArgs false
set_option linter.unusedVariables false
open Go Go.Abs Go.ChangeShapes Go.WideShapes Go.ChangeAt Go.RowKit
section
variable {H : Type} {enc : TypeId × Value -> H} {W : World} {spare : Nat -> Bool} {held : Bool}
theorem H0j:Rd enc Try.prog W spare held 81 fun b ts=>∃a:Arc,ts=eArc.enc a/\True:=
 (C4f Try.underlying81 rfl (by kernel_rfl) (by kernel_rfl) (F7i Try.underlying3) (F7i Try.underlying3)).mono fun b ts ⟨_,_,t0,t1,_,_,e,⟨n,e0⟩,⟨m,e1⟩⟩=>⟨⟨n,m⟩,by rw[e,e0,e1];rfl,trivial⟩
theorem G8d:Rd enc Try.prog W spare held 61 fun b ts=>∃x:Nd,ts=eNd.enc x/\x.arcs.length<=b:=
 (C4f Try.underlying61 rfl (by kernel_rfl) (by kernel_rfl) (F7i Try.underlying3) (B6t Try.underlying59 (by kernel_rfl) H0j)).mono fun b ts ⟨_,b1,t0,t1,_,h1,e,⟨n,e0⟩,⟨x,l,e1,hx,hl,_⟩⟩=>⟨⟨n,x,l,hx⟩,by rw[e,e0,e1];rfl,Nat.le_trans hl h1⟩
theorem G3y:Rd enc Try.prog W spare held 25 fun b ts=>∃x:FSv,ts=eFS.enc x/\x.nodes.length<=b/\∀y∈x.nodes,y.arcs.length<=b:=
 (F1y Try.underlying25 rfl (by kernel_rfl) (B6t Try.underlying23 (by kernel_rfl) G8d)).mono fun b ts ⟨b0,h0,x,l,e,hx,hl,ha⟩=>⟨⟨x,l,hx⟩,e,Nat.le_trans hl h0,fun y hy=>by
  obtain⟨b',h1,h2⟩:=ha y hy
  omega⟩
theorem G8e:Rd enc Try.prog W spare held 120 fun b ts=>∃x l,ts=[x]/\IsS eStr x l/\l.length<=b:=
 (B6t (e:=eStr) (R:=fun b s=>s.size<=b) Try.underlying120 (by kernel_rfl) ((E7e Try.underlying9).mono fun b ts ⟨s,e,h⟩=>⟨s,e,h⟩)).mono fun b ts ⟨x,l,e,hx,hl,_⟩=>⟨x,l,e,hx,hl⟩
theorem rd_fd:Rd enc Try.prog W spare held 128 fun b ts=>∃x:FD,ts=eFD.enc x/\x.feat.size<=b:=
 (C4f Try.underlying128 rfl (by kernel_rfl) (by kernel_rfl) (E7e Try.underlying9) (E7e Try.underlying9)).mono fun b ts ⟨_,_,t0,t1,h0,_,e,⟨n,e0,hn⟩,⟨m,e1,_⟩⟩=>⟨⟨n,m⟩,by rw[e,e0,e1];rfl,Nat.le_trans hn h0⟩
def TDb (b:Nat) (x:TD):Prop:=∃(ss:List Str) (fs:List FD),IsS eStr x.supers ss/\IsS eFD x.feats fs/\ss.length<=b/\fs.length<=b/\x.name.size<=b/\∀f∈fs,f.feat.size<=b
theorem rd_td:Rd enc Try.prog W spare held 123 fun b ts=>∃x:TD,ts=eTD.enc x/\TDb b x:=
 (F1z Try.underlying123 rfl rfl rfl (by kernel_rfl) (by kernel_rfl) (by kernel_rfl) (by kernel_rfl) (E7e Try.underlying9) G8e (B6t Try.underlying121 (by kernel_rfl) rd_fd)).mono
  fun b ts ⟨_,_,_,t0,t1,t2,h0,h1,h2,e,⟨n,e0,hn⟩,⟨x,l,e1,hx,hl⟩,⟨y,m,e2,hy,hm,hf⟩⟩=>⟨⟨n,x,y⟩,by rw[e,e0,e1,e2];rfl,l,m,hx,hy,Nat.le_trans hl h1,Nat.le_trans hm h2,Nat.le_trans hn h0,fun f hf'=>by
   obtain⟨b',g1,g2⟩:=hf f hf'
   omega⟩
theorem TDb.ok {b:Nat} {x:TD} (h:TDb b x) (hb:b<=cap):x.OK:=by
 obtain⟨ss,fs,h1,h2,h3,h4,h5,h6⟩:=h
 have e1:x.ss=ss:=TD.ss_eq h1
 have e2:x.fs=fs:=TD.fs_eq h2
 exact⟨by rw[e1];exact h1,by rw[e2];exact h2,by rw[e1];omega,by rw[e2];omega,by omega,by rw[e2];exact fun f hf=>by have:=h6 f hf;omega⟩
theorem B1w {v:Value} {d:DataW H} {p:List MemPlace} (h:DataW.Trod enc Try.prog W 0 spare held 22 v d p) {a:Option Addr} {len cap':Nat} (hv:v = .slice a len cap') (hb:Rows.uptoBulk d<=1048576) :
  ∃x l,IsS eTD x l/\(l.length<=12->DOK l)/\RepT (Old W) W x v:=by
 obtain⟨fuel,hf⟩:=h
 subst hv
 obtain⟨ts,hr,x,l,e,hx,hl,ha⟩:=B6t (P:=Try.prog) Try.underlying22 (by kernel_rfl) rd_td fuel _ d p hf
 refine⟨x,l,hx,fun h12=>⟨by omega,fun y hy=>?_⟩,?_⟩
 ·obtain⟨b',h1,h2⟩:=ha y hy
  exact h2.ok (by unfold cap;omega)
 ·have:=hr.1
  rw[e]at this
  simp only[Value.cells,RepL]at this
  obtain⟨z,zs,hz,h3,_⟩:=this
  simp at hz
  rw[hz.1]
  exact h3
theorem D6s {v:Value} {d:DataW H} {p:List MemPlace} (h:DataW.Trod enc Try.prog W 0 spare held 25 v d p) {us:Array Value} (hv:v = .agg us) :
  ∃x l,IsS eNd x l/\RepT (Old W) W (.ag [x]) v:=by
 obtain⟨fuel,hf⟩:=h
 subst hv
 obtain⟨ts,hr,x,e,_,_⟩:=G3y fuel _ d p hf
 refine⟨x.tree,x.nodes,x.ok,?_⟩
 simp only[RepT]
 refine⟨us,rfl,fun y hy=>hr.2 y (by simpa[Value.cells]using hy),?_⟩
 have:=hr.1
 rw[e]at this
 simpa[Value.cells,eFS]using this
end
open Go Go.Abs
theorem D6t {d:List TD} {s:Str} {todo:List Str} {x:TD} (hx:x∈d) (hs:s∈x.ss):x.name∈A4u d s todo:=by
 unfold A4u
 have key:∀(l:List TD) (acc:List Str),(x∈l\/x.name∈acc)->x.name∈l.foldl (A9l s) acc:=by
  intro l
  induction l with
  | nil=>intro acc h;rcases h with h | h;cases h;exact h
  | cons y l ih=>
   intro acc h
   rw[List.foldl_cons]
   refine ih _ ?_
   rcases h with h | h
   ·rcases List.mem_cons.1 h with rfl | h
    ·right
     unfold A9l
     rw[(A6e _ _).2 hs]
     cases hc:hasS acc x.name with
     | true=>simpa using (A6e _ _).1 hc
     | false=>simp
    ·exact .inl h
   ·right
    unfold A9l
    split
    ·exact List.mem_append_left _ h
    ·exact h
 exact key d todo (.inl hx)
theorem C5n {d:List TD}:∀(f i:Nat) (todo:List Str),todo.Nodup->(∀s∈todo,∃x∈d,x.name=s)->(∀(j:Nat) s,j<i->todo[j]?=some s->∀x∈d,s∈x.ss->x.name∈todo)->d.length<f+i ->
  ∀s∈B4v (A4u d) f i todo,∀x∈d,s∈x.ss->x.name∈B4v (A4u d) f i todo
 | 0,i,todo,hn,hm,hc,hf=>by
  intro s hs x hx hsx
  simp only[B4v]at hs ⊢
  obtain⟨j,hj,e⟩:=List.getElem_of_mem hs
  have:=B3b hn hm
  exact hc j s (by omega) (by rw[List.getElem?_eq_getElem hj,e]) x hx hsx
 | f+1,i,todo,hn,hm,hc,hf=>by
  intro s hs x hx hsx
  simp only[B4v]at hs ⊢
  cases hi:todo[i]? with
  | none=>
   rw[hi]at hs
   simp only at hs ⊢
   obtain⟨j,hj,e⟩:=List.getElem_of_mem hs
   have:todo.length<=i:=by simpa using hi
   exact hc j s (by omega) (by rw[List.getElem?_eq_getElem hj,e]) x hx hsx
  | some u=>
   rw[hi]at hs
   simp only at hs ⊢
   have hg:=A5j (d:=d) u hn hm d.length (Nat.le_refl _)
   rw[A9m]at hg
   refine C5n f (i+1) _ hg.nodup hg.mem (fun j v hj hv y hy hvy=>?_) (by omega) s hs x hx hsx
   have hit:j<todo.length:=by have:=(List.getElem?_eq_some_iff.1 hi).1;omega
   have hv':todo[j]?=some v:=by
    obtain⟨m,hm'⟩:=hg.pre
    rw[hm',List.getElem?_append_left hit]at hv
    exact hv
   by_cases e:j=i
   ·subst e
    rw[hi]at hv'
    injection hv' with hv'
    subst hv'
    exact D6t hy hvy
   ·have:=hc j v (by omega) hv' y hy hvy
    obtain⟨m,hm'⟩:=hg.pre
    rw[hm']
    exact List.mem_append_left _ this
theorem E1a {d:List TD} {s u:Str} (hs:∃x∈d,x.name=s) (hu:u∈below d s) {x:TD} (hx:x∈d) (hux:u∈x.ss):x.name∈below d s:=by
 unfold below at hu ⊢
 split at hu
 ·cases hu
 ·rename_i hf
  rw[if_neg hf]
  refine B6o.2 ?_
  exact C5n (d.length+1) 0 [s] (by simp) (by simpa using hs) (fun j v hj=>by omega) (by omega) u (B6o.1 hu) x hx hux
theorem F8e {d:List TD} (h:A3n d=0):roots d=1:=by
 unfold A3n at h
 repeat' split at h
 all_goals first | (rename_i h1;exact absurd h h1) | cases h | skip
 all_goals (rename_i h4 _;exact Classical.byContradiction fun h'=>h4 h')
theorem F8f {d:List TD} (hg:Good d) (h:A3n d=0):∃r∈d,∀x∈d,x.name∈below d r.name:=by
 have h1:=F8e h
 unfold roots at h1
 rw[List.countP_eq_length_filter]at h1
 obtain⟨r,hr⟩:=List.length_eq_one_iff.1 h1
 have hrm:r∈d.filter fun x=>x.ss.isEmpty:=by rw[hr];simp
 have hrd:=(List.mem_filter.1 hrm).1
 refine⟨r,hrd,?_⟩
 have key:∀(n:Nat) (x:TD),x∈d->rk d x.name<=n->x.name∈below d r.name:=by
  intro n
  induction n with
  | zero=>
   intro x hx hn
   cases hs:x.ss with
   | nil=>
    have:x∈d.filter fun x=>x.ss.isEmpty:=List.mem_filter.2 ⟨hx,by simp[hs]⟩
    rw[hr]at this
    simp only[List.mem_singleton]at this
    rw[this]
    exact C3x ⟨r,hrd,rfl⟩
   | cons u us=>have:=G7s hg hx (u:=u) (by simp[hs]);omega
  | succ n ih=>
   intro x hx hn
   cases hs:x.ss with
   | nil=>
    have:x∈d.filter fun x=>x.ss.isEmpty:=List.mem_filter.2 ⟨hx,by simp[hs]⟩
    rw[hr]at this
    simp only[List.mem_singleton]at this
    rw[this]
    exact C3x ⟨r,hrd,rfl⟩
   | cons u us=>
    have hu:u∈x.ss:=by simp[hs]
    have hlt:=G7s hg hx hu
    obtain⟨y,hy,rfl⟩:=hg.decl hx hu
    exact E1a ⟨r,hrd,rfl⟩ (ih y hy (by omega)) hx hu
 exact fun x hx=>key _ x hx (Nat.le_refl _)
def C5o (n:Nat) (l:List W):Prop:=∀i,hasL l i=true->i<n
theorem G3z {x y:List W} {i:Nat} (h:hasL (andN x y) i=true):hasL x i=true:=by
 unfold hasL andN at h
 rw[B2t,E3b]at h
 unfold hasL
 simp only[BitVec.getLsbD_and,Bool.and_eq_true]at h
 exact h.1
theorem F2j {n i:Nat} {l:List (List W)} {k:Nat} (h:∀x∈l,C5o n x):∀x∈A7d i l k,C5o n x:=by
 unfold A7d
 split
 ·split
  ·exact h
  ·intro x hx
   rcases List.mem_append.1 hx with hx | hx
   ·exact h x hx
   ·simp only[List.mem_singleton]at hx
    subst hx
    intro j hj
    have h1:=G3z hj
    by_cases hi:i<l.length
    ·have e:l.getD i []=l[i]:=by simp[List.getD_eq_getElem?_getD,hi]
     rw[e]at h1
     exact h _ (List.getElem_mem hi) j h1
    ·have e:l.getD i []=[]:=by simp[List.getD_eq_getElem?_getD,Nat.le_of_not_lt hi]
     rw[e]at h1
     simp[hasL,wd]at h1
 ·exact h
theorem F8g {n:Nat} {l:List (List W)} (h:∀x∈l,C5o n x):∀x∈A1t l,C5o n x:=by
 have h1:∀(i:Nat) (l:List (List W)) (k:Nat),(∀x∈l,C5o n x)->∀x∈A3v i l k,C5o n x:=by
  intro i l k hl
  induction k with
  | zero=>exact hl
  | succ k ih=>exact F2j ih
 have h2:∀(f i:Nat) (l:List (List W)),(∀x∈l,C5o n x)->∀x∈famF f i l,C5o n x:=by
  intro f
  induction f with
  | zero=>exact fun i l hl=>hl
  | succ f ih=>
   intro i l hl
   unfold famF
   split
   ·exact ih _ _ (h1 i l i hl)
   ·exact hl
 exact h2 300 0 l h
theorem B3j {x y:List W} (h:∀i,hasL x i=true->hasL y i=true):subL x y=true:=by
 refine(A4z x y).2 fun k=>?_
 refine BitVec.eq_of_getLsbD_eq fun j hj=>?_
 simp only[BitVec.getLsbD_and,BitVec.getLsbD_not,hj,decide_true,Bool.true_and]
 cases hx:(wd x k).getLsbD j with
 | false=>simp
 | true=>
  have:=h (64*k+j) (by unfold hasL;rw[show(64*k+j) / 64=k by omega,show(64*k+j)%64=j by omega];exact hx)
  unfold hasL at this
  rw[show(64*k+j) / 64=k by omega,show(64*k+j)%64=j by omega]at this
  simp[this]
theorem B3k {x y:List W} (h:subL x y=true) (i:Nat) (hx:hasL x i=true):hasL y i=true:=by
 have h1:=(A4z x y).1 h (i / 64)
 have h2:=congrArg (fun v:W=>v.getLsbD (i%64)) h1
 unfold hasL at hx ⊢
 have hm:i%64<64:=Nat.mod_lt _ (by omega)
 simp only[BitVec.getLsbD_and,BitVec.getLsbD_not,hx,hm,decide_true,Bool.true_and]at h2
 simpa using h2
theorem E7q (l:List W):∀k,l.length<=k->(els l (64*k)).length=cnt l:=by
 intro k hk
 obtain⟨m,rfl⟩:∃m,k=l.length+m:=⟨k-l.length,by omega⟩
 induction m with
 | zero=>exact F5l l
 | succ m ih=>
  have hw:wd l (l.length+m)=0:=by simp[wd,List.getD_eq_getElem?_getD]
  have:=D5q l (l.length+m) 64 (Nat.le_refl _)
  rw[show 64*(l.length+(m+1))=64*(l.length+m)+64 by omega,this,ih (by omega),hw]
  simp
theorem E1b {p q:Nat->Bool} (hs:∀i,p i=true->q i=true) {i:Nat} (hq:q i=true) (hp:p i=false):∀n,i<n->((List.range n).filter p).length<((List.range n).filter q).length
 | 0,h=>by omega
 | n+1,h=>by
  have mono:∀n,((List.range n).filter p).length<=((List.range n).filter q).length:=by
   intro n
   rw[<-List.countP_eq_length_filter,<-List.countP_eq_length_filter]
   exact List.countP_mono_left fun x _ hx=>hs x hx
  rw[List.range_succ,List.filter_append,List.filter_append,List.length_append,List.length_append]
  by_cases e:i=n
  ·subst e
   have:=mono i
   simp[hp,hq]
   omega
  ·have:=E1b hs hq hp n (by omega)
   have h2:([n].filter p).length<=([n].filter q).length:=by
    cases h3:p n with
    | false=>simp[h3]
    | true=>simp[h3,hs n h3]
   omega
theorem E7r {x y:List W} (h:subL x y=true) (hc:cnt y<=cnt x):subL y x=true:=by
 refine B3j fun i hy=>Classical.byContradiction fun hx=>?_
 have hx:hasL x i=false:=by simpa using hx
 obtain⟨k,hk⟩:∃k,k=x.length+y.length+i+1:=⟨_,rfl⟩
 have h1:=E7q x k (by omega)
 have h2:=E7q y k (by omega)
 have h3:=E1b (p:=hasL x) (q:=hasL y) (B3k h) hy hx (64*k) (by omega)
 unfold els at h1 h2
 rw[List.length_map]at h1 h2
 omega
def E4p (l:List Co):Prop:=∀h,l[0]?=some h->∀y∈l,cnt y.code<=cnt h.code
theorem D4c {x:Co} {out:List Co}:∀{k:Nat},B3z x out k=0->∀j,j<k->A2d x (out.getD j default)=true
 | 0,_,j,hj=>by omega
 | k+1,h,j,hj=>by
  unfold B3z at h
  split at h
  ·rename_i hb
   by_cases e:j=k
   ·subst e;exact hb
   ·exact D4c h j (by omega)
  ·omega
theorem E1c {x:Co} {out:List Co} {m:Nat}:∀{k:Nat},B3z x out k=m+1->m<k/\A2d x (out.getD m default)=false
 | 0,h=>by simp[B3z]at h
 | k+1,h=>by
  unfold B3z at h
  split at h
  ·have:=E1c h;exact⟨by omega,this.2⟩
  ·rename_i hb
   have:m=k:=by omega
   subst this
   exact⟨by omega,by simpa using hb⟩
theorem E4q {x:Co} {out:List Co} (h:E4p out):E4p (ins x out):=by
 intro z hz y hy
 have hy':=F6h.1 hy
 unfold ins at hz
 cases hat:B3z x out out.length with
 | zero=>
  rw[hat]at hz
  simp at hz
  subst hz
  rcases hy' with rfl | hy'
  ·exact Nat.le_refl _
  ·obtain⟨j,hj,e⟩:=List.getElem_of_mem hy'
   have:=D4c hat j hj
   rw[show out.getD j default=y by simp[List.getD_eq_getElem?_getD,hj,e]]at this
   unfold A2d at this
   simp only[Bool.or_eq_true,Bool.and_eq_true,decide_eq_true_eq]at this
   omega
 | succ m=>
  obtain⟨hm,hb⟩:=E1c hat
  rw[hat]at hz
  have hz0:out[0]?=some z:=by
   rw[List.append_assoc,List.getElem?_append_left (by simp;omega),List.getElem?_take,if_pos (by omega)]at hz
   exact hz
  rcases hy' with rfl | hy'
  ·have h1:=h z hz0 (out.getD m default) (by rw[show out.getD m default=out[m]by simp[List.getD_eq_getElem?_getD,hm]];exact List.getElem_mem hm)
   unfold A2d at hb
   simp only[Bool.or_eq_false_iff,decide_eq_false_iff_not]at hb
   omega
  ·exact h z hz0 y hy'
theorem C5p (d:List TD) (all:List Str) (codes f:List (List W)):∀j,E4p (coUp d all codes f j)
 | 0=>fun h hh=>by simp[coUp]at hh
 | j+1=>by simp only[coUp];exact E4q (C5p d all codes f j)
def F2k (ty:List Typ):Prop:=∀j,j<ty.length->hsub ty 0 (j:Int)=true
theorem F8h {d:List TD} (hg:Good d) (h:A3n d=0):∃c∈A1t (A0o d),∀y∈A1t (A0o d),subL y c=true:=by
 obtain⟨r,hr,hall⟩:=F8f hg h
 have hl:(names d).length<=256:=Nat.le_trans (B0i d) hg.len
 have hrn:r.name∈names d:=A6j.2 ⟨r,hr,rfl⟩
 obtain⟨r',hr'⟩:=(B6p 300 0 (A0o d)).pre
 refine⟨A4m d (names d) r.name,?_,fun y hy=>?_⟩
 ·show _∈famF 300 0 (A0o d)
  rw[hr']
  exact List.mem_append_left _ (List.mem_map_of_mem hrn)
 ·have hin:=F8g (n:=(names d).length) (l:=A0o d) (fun x hx=>by
   obtain⟨s,_,rfl⟩:=List.mem_map.1 hx
   intro i hi
   rw[C1g hl]at hi
   simp only[Bool.and_eq_true,decide_eq_true_eq]at hi
   exact hi.1) y hy
  refine B3j fun i hi=>?_
  have hlt:=hin i hi
  rw[C1g hl,decide_eq_true hlt,Bool.true_and]
  obtain⟨x,hx,e⟩:=A6j.1 (List.getElem_mem hlt)
  rw[show(names d).getD i A2y=x.name by simp[List.getD_eq_getElem?_getD,hlt,e]]
  exact(A6e _ _).2 (hall x hx)
theorem E7s {d:List TD} (hg:Good d) (h:A3n d=0):F2k (A8v d):=by
 intro j hj
 have hlen:=F7r d
 have hj':j<(A0p d).length:=by omega
 obtain⟨c,hc,hall⟩:=F8h hg h
 have hmem:∀co∈A0p d,co.code∈A1t (A0o d):=by
  intro co hco
  obtain⟨i,x,_,h2,rfl⟩:=(B6q (Nat.le_refl _)).1 hco
  exact List.mem_of_getElem? h2
 have hmax:=C5p d (names d) (A0o d) (A1t (A0o d)) (A1t (A0o d)).length
 have h0:(A0p d)[0]?=some (A0p d)[0]:=List.getElem?_eq_getElem (by omega)
 obtain⟨i,hi,ei⟩:=List.getElem_of_mem hc
 have hcm:mkCo d (names d) (A0o d) c∈A0p d:=(B6q (Nat.le_refl _)).2 ⟨i,c,hi,by rw[List.getElem?_eq_getElem hi,ei],rfl⟩
 have h1:=hmax _ h0 _ hcm
 have h2:=E7r (hall _ (hmem _ (List.getElem_mem (by omega:0<(A0p d).length)))) h1
 have code:∀k,k<(A0p d).length->∃x,(A8v d)[k]?=some x/\∃co∈A0p d,(A0p d)[k]?=some co/\x.code=co.code:=by
  intro k hk
  have:∀n,n<=(A0p d).length->k<n->∃x,(tyUp d n)[k]?=some x/\∃co∈A0p d,(A0p d)[k]?=some co/\x.code=co.code:=by
   intro n
   induction n with
   | zero=>intro _ h;omega
   | succ n ih=>
    intro hn hkn
    have hx:(A0p d)[n]?=some (A0p d)[n]:=List.getElem?_eq_getElem (by omega)
    simp only[tyUp,hx]
    have hl:=C1n d (i:=n) (by omega)
    by_cases e:k=n
    ·subst e
     refine⟨D6l d k (A0p d)[k],by rw[List.getElem?_append_right (by omega)];simp[hl],_,List.getElem_mem (by omega),hx,rfl⟩
    ·obtain⟨x,h3,h4⟩:=ih (by omega) (by omega)
     exact⟨x,by rw[List.getElem?_append_left (by omega)];exact h3,h4⟩
  exact this _ (Nat.le_refl _) hk
 obtain⟨x0,e0,co0,_,k0,f0⟩:=code 0 (by omega)
 obtain⟨xj,ej,coj,mj,kj,fj⟩:=code j hj'
 rw[h0]at k0
 injection k0 with k0
 unfold hsub
 rw[show((0:Int)).toNat=0 by rfl,e0,show((j:Int)).toNat=j by omega,ej]
 simp only
 rw[f0,fj,<-k0]
 refine B3j fun i hi=>B3k h2 i ?_
 exact B3k (hall _ (hmem _ mj)) i hi
theorem B5w {d:List TD} (h:A1g d=0):A3n d=0:=by
 unfold A1g at h
 have h1:A9o d=0:=Classical.byContradiction fun h1=>by rw[if_pos h1]at h;exact h1 h
 unfold A9o at h1
 exact Classical.byContradiction fun h2=>by rw[if_pos h2]at h1;exact h2 h1
theorem G8f {d:List TD} (hd:d.length<=12->DOK d):F2k (hOf d).1:=by
 unfold hOf
 split
 ·rename_i h
  exact E7s (A2m (hd h.1) h.2).good (B5w h.2)
 ·split
  ·rename_i h
   exact E7s (A2m C4h h).good (B5w h)
  ·intro j hj
   simp at hj
theorem A7i {x y:W}:x &&& ~~~ y=0 ↔ ∀i,x.getLsbD i=true->y.getLsbD i=true:=by
 constructor
 ·intro h i hx
  have h1:=congrArg (fun v:W=>v.getLsbD i) h
  simp only[BitVec.getLsbD_and,BitVec.getLsbD_not,hx,Bool.true_and]at h1
  have hi:i<64:=by
   apply Classical.byContradiction
   intro hn
   rw[BitVec.getLsbD_of_ge _ _ (by omega)]at hx
   cases hx
  simp[hi]at h1
  exact h1
 ·intro h
  refine BitVec.eq_of_getLsbD_eq fun i hi=>?_
  simp only[BitVec.getLsbD_and,BitVec.getLsbD_not]
  cases hx:x.getLsbD i with
  | false=>simp
  | true=>simp[h i hx]
theorem C1p (l:List W):subL l l=true:=(A4z l l).2 fun i=>A7i.2 fun _ h=>h
theorem F2l {l m n:List W} (h:subL l m=true) (h':subL m n=true):subL l n=true:=
 (A4z l n).2 fun i=>A7i.2 fun j hj=>A7i.1 ((A4z m n).1 h' i) j (A7i.1 ((A4z l m).1 h i) j hj)
theorem F8i {l m:List W} (h:subL l m=true) (h':subL m l=true) (i:Nat):wd l i=wd m i:=by
 refine BitVec.eq_of_getLsbD_eq fun j _=>?_
 have h1:=A7i.1 ((A4z l m).1 h i) j
 have h2:=A7i.1 ((A4z m l).1 h' i) j
 cases hx:(wd l i).getLsbD j with
 | true=>exact(h1 hx).symm
 | false=>
  cases hy:(wd m i).getLsbD j with
  | false=>rfl
  | true=>rw[h2 hy]at hx;cases hx
theorem E1d {ty:List Typ} {s:Int} (h0:0<=s) (h:s<(ty.length:Int)):hsub ty s s=true:=by
 have:ty[s.toNat]?=some ty[s.toNat]:=List.getElem?_eq_getElem (by omega)
 simp only[hsub,this]
 exact C1p _
theorem F2m {ty:List Typ} {s t u:Int} (h:hsub ty s t=true) (h':hsub ty t u=true):hsub ty s u=true:=by
 unfold hsub at h h' ⊢
 cases hs:ty[s.toNat]? with
 | none=>rw[hs]at h;simp at h
 | some x=>
  cases ht:ty[t.toNat]? with
  | none=>rw[hs,ht]at h;simp at h
  | some y=>
   cases hu:ty[u.toNat]? with
   | none=>rw[ht,hu]at h';simp at h'
   | some z=>
    rw[hs,ht]at h
    rw[ht,hu]at h'
    exact F2l h' h
section
variable {nt nf : Nat} {ty : List Typ} {a b c : List Nd}
def idN (n:Nat):List Int:=(List.range n).map fun i:Nat=>(i:Int)
theorem B9n {n i:Nat} (h:i<n):nAt (idN n) i=(i:Int):=B5s (by simp[idN,List.getElem?_range h])
def F2n (m n:List Int):List Int:=m.map fun i=>nAt n i.toNat
theorem E7t {m n:List Int} {i:Nat} (h:i<m.length):nAt (F2n m n) i=nAt n (nAt m i).toNat:=by
 refine B5s ?_
 unfold F2n
 rw[List.getElem?_map,B1d h]
 rfl
theorem B6v {l:List Nd} {k:Int} (h0:0<=k) (h:k<(l.length:Int)):l[k.toNat]?=some (ndAt l k):=by
 have:k.toNat<l.length:=by omega
 simp[ndAt,List.getElem?_eq_getElem this]
theorem D0f {x:Nd} (hx:∀(i j:Nat) p q,i<j->x.arcs[i]?=some p->x.arcs[j]?=some q->p.feat≠q.feat) {d:Arc} (hd:d∈x.arcs):tgt x d.feat=d.to:=by
 obtain⟨n,h1,h2,h3⟩:=B9i x d.feat
 obtain⟨j,hj,e⟩:=List.getElem_of_mem hd
 have hj':x.arcs[j]?=some d:=by rw[List.getElem?_eq_getElem hj,e]
 rcases h3 with⟨h4,h5,h6⟩ | ⟨q,h4,h5,h6,_⟩
 ·exact absurd rfl (h2 j d (by omega) hj')
 ·rw[h6]
  rcases Nat.lt_trichotomy j n with hlt | heq | hgt
  ·exact absurd rfl (h2 j d hlt hj')
  ·subst heq
   rw[h4]at hj'
   injection hj' with hj'
   rw[hj']
  ·exact absurd h5 (hx n j q d hgt h4 hj')
theorem E7u (ha:A1d ty.length nf a):Mor ty a a (idN a.length):=by
 have hat:∀{i:Nat} {x:Nd},a[i]?=some x->ndAt a (nAt (idN a.length) i)=x:=fun {i x} hx=>by
  rw[B9n (List.getElem?_eq_some_iff.1 hx).1]
  exact A7h hx
 refine⟨by simp[idN],by rw[B9n ha.form.pos];rfl,fun i hi=>by rw[B9n hi];omega,fun i x hx=>?_,fun i x hx d hd=>?_⟩
 ·rw[hat hx]
  have hm:=List.mem_of_getElem? hx
  exact E1d (ha.form.type x hm) (ha.type x hm)
 ·rw[hat hx]
  have hm:=List.mem_of_getElem? hx
  obtain⟨h0,h1⟩:=ha.form.to x hm d hd
  rw[D0f (ha.form.apart x hm) hd,B9n (by omega)]
  omega
theorem E7v {m n:List Int} (ha:A1d nt nf a) (h:Mor ty a b m) (h':Mor ty b c n):Mor ty a c (F2n m n):=by
 have hc:∀i,i<a.length->nAt (F2n m n) i=nAt n (nAt m i).toNat:=fun i hi=>E7t (by rw[h.len];exact hi)
 refine⟨by simp[F2n,h.len],?_,fun i hi=>?_,fun i x hx=>?_,fun i x hx d hd=>?_⟩
 ·rw[hc 0 ha.form.pos,h.root]
  exact h'.root
 ·rw[hc i hi]
  have:=h.rng i hi
  exact h'.rng _ (by omega)
 ·have hi:=(List.getElem?_eq_some_iff.1 hx).1
  rw[hc i hi]
  obtain⟨h0,h1⟩:=h.rng i hi
  exact F2m (h.type i x hx) (h'.type _ _ (B6v h0 h1))
 ·have hi:=(List.getElem?_eq_some_iff.1 hx).1
  have hdm:=ha.form.to x (List.mem_of_getElem? hx) d hd
  obtain⟨h0,h1⟩:=h.rng i hi
  have hto:=h.arc i x hx d hd
  obtain⟨g0,g1⟩:=h.rng d.to.toNat (by omega)
  rw[hc i hi,hc d.to.toNat (by omega),<-hto]
  rw[<-hto]at g0
  obtain⟨q,hq,e⟩:=F7g g0
  have hfeat:∃q∈(ndAt b (nAt m i)).arcs,q.feat=d.feat/\tgt (ndAt b (nAt m i)) d.feat=q.to:=by
   obtain⟨k,_,_,h3⟩:=B9i (ndAt b (nAt m i)) d.feat
   rcases h3 with⟨_,h5,_⟩ | ⟨q,h4,h5,h6,_⟩
   ·omega
   ·exact⟨q,List.mem_of_getElem? h4,h5,h6⟩
  obtain⟨q,hq,e1,e2⟩:=hfeat
  have:=h'.arc _ _ (B6v h0 h1) q hq
  rw[e1]at this
  rw[this,e2]
theorem F8j {m n:List Int} (ha:A1d ty.length nf a) (h:Mor ty a b m) (h':Mor ty b a n):∀i,i<a.length->nAt n (nAt m i).toNat=(i:Int):=by
 intro i hi
 have e:=(E7v ha h h').uniq ha (E7u ha)
 have:nAt (F2n m n) i=nAt (idN a.length) i:=by rw[e]
 rw[E7t (by rw[h.len];exact hi),B9n hi]at this
 exact this
theorem A4o:morB ty a b=true ↔ ∃m,Mor ty a b m:=by
 unfold morB
 exact @decide_eq_true_iff _ (_)
theorem E1e (ha:A1d ty.length nf a):morB ty a a=true:=A4o.2 ⟨_,E7u ha⟩
theorem B6w (ha:A1d nt nf a) (h:morB ty a b=true) (h':morB ty b c=true):morB ty a c=true:=by
 obtain⟨m,hm⟩:=A4o.1 h
 obtain⟨n,hn⟩:=A4o.1 h'
 exact A4o.2 ⟨_,E7v ha hm hn⟩
end
def D6u (l:List Arc):Prop:=l.Pairwise fun p q=>p.feat<=q.feat
def Asc (l:List Arc):Prop:=l.Pairwise fun p q=>p.feat<q.feat
theorem E1f (l:List Arc) (f:Int):∀k,k<=l.length->(∀(j:Nat) y,posA l f k<=j->j<k->l[j]?=some y->f<y.feat)/\(0<posA l f k->∃y,l[posA l f k-1]?=some y/\y.feat<=f)
 | 0,_=>⟨fun j y _ h=>by omega,fun h=>by simp[posA]at h⟩
 | k+1,hk=>by
  obtain⟨h1,h2⟩:=E1f l f k (by omega)
  obtain⟨y,hy⟩:∃y,l[k]?=some y:=⟨_,List.getElem?_eq_getElem (by omega)⟩
  by_cases hc:f<y.feat
  ·have e:posA l f (k+1)=posA l f k:=by simp only[posA,hy,if_pos hc]
   rw[e]
   refine⟨fun j z h3 h4 hz=>?_,h2⟩
   by_cases ej:j=k
   ·rw[ej,hy]at hz
    injection hz with hz
    rw[<-hz];exact hc
   ·exact h1 j z h3 (by omega) hz
  ·have e:posA l f (k+1)=k+1:=by simp only[posA,hy,if_neg hc]
   rw[e]
   exact⟨fun j z h3 h4=>by omega,fun _=>⟨y,by simpa using hy,by omega⟩⟩
theorem G4a {x:Arc} {l:List Arc} (h:D6u l):D6u (insA x l):=by
 obtain⟨h1,h2⟩:=E1f l x.feat l.length (Nat.le_refl _)
 have hle:=D5i l x.feat l.length
 have hp:=List.pairwise_iff_getElem.1 h
 unfold insA D6u
 obtain⟨p,hpe⟩:∃p,p=posA l x.feat l.length:=⟨_,rfl⟩
 rw[<-hpe]at h1 h2 hle ⊢
 have lo:∀y∈l.take p,y.feat<=x.feat:=by
  intro y hy
  obtain⟨j,hj,e⟩:=List.getElem_of_mem hy
  rw[List.length_take]at hj
  obtain⟨z,hz,hz'⟩:=h2 (by omega)
  have hj':l[j]?=some y:=by
   rw[<-e,List.getElem_take]
   exact List.getElem?_eq_getElem (by omega)
  by_cases ej:j=p-1
  ·rw[<-ej,hj']at hz
   injection hz with hz
   rw[hz];exact hz'
  ·have:=hp j (p-1) (by omega) (by omega) (by omega)
   rw[(List.getElem?_eq_some_iff.1 hj').2,(List.getElem?_eq_some_iff.1 hz).2]at this
   omega
 have hi:∀y∈l.drop p,x.feat<=y.feat:=by
  intro y hy
  obtain⟨j,hj,e⟩:=List.getElem_of_mem hy
  rw[List.length_drop]at hj
  have hj':l[p+j]?=some y:=by
   rw[<-e,List.getElem_drop]
   exact List.getElem?_eq_getElem (by omega)
  have:=h1 (p+j) y (by omega) (by omega) hj'
  omega
 have ht:(l.take p).Pairwise fun p q=>p.feat<=q.feat:=h.sublist (List.take_sublist _ _)
 have hd:(l.drop p).Pairwise fun p q=>p.feat<=q.feat:=h.sublist (List.drop_sublist _ _)
 rw[List.append_assoc,List.pairwise_append]
 refine⟨ht,?_,fun y hy z hz=>?_⟩
 ·simp only[List.singleton_append,List.pairwise_cons]
  exact⟨hi,hd⟩
 ·simp only[List.singleton_append,List.mem_cons]at hz
  rcases hz with rfl | hz
  ·exact lo y hy
  ·have:=lo y hy
   have:=hi z hz
   omega
theorem F8k (l:List Arc):D6u (A3g l):=by
 have:∀i,D6u (A3m l i):=by
  intro i
  induction i with
  | zero=>exact List.Pairwise.nil
  | succ i ih=>
   simp only[A3m]
   split
   ·exact G4a ih
   ·exact ih
 exact this _
theorem G6a:∀{l m:List Arc},Asc l->Asc m->(∀x,x∈l ↔ x∈m)->l=m
 | [],[],_,_,_=>rfl
 | [],y::m,_,_,h=>by have:=(h y).2 List.mem_cons_self;cases this
 | x::l,[],_,_,h=>by have:=(h x).1 List.mem_cons_self;cases this
 | x::l,y::m,hl,hm,h=>by
  have hl':=List.pairwise_cons.1 hl
  have hm':=List.pairwise_cons.1 hm
  have e:x=y:=by
   rcases List.mem_cons.1 ((h x).1 List.mem_cons_self)with e | hx
   ·exact e
   ·rcases List.mem_cons.1 ((h y).2 List.mem_cons_self)with e | hy
    ·exact e.symm
    ·have:=hm'.1 x hx
     have:=hl'.1 y hy
     omega
  subst e
  rw[G6a hl'.2 hm'.2 fun z=>⟨fun hz=>?_,fun hz=>?_⟩]
  ·rcases List.mem_cons.1 ((h z).1 (List.mem_cons_of_mem _ hz))with e | hz'
   ·have:=hl'.1 z hz;rw[e]at this;omega
   ·exact hz'
  ·rcases List.mem_cons.1 ((h z).2 (List.mem_cons_of_mem _ hz))with e | hz'
   ·have:=hm'.1 z hz;rw[e]at this;omega
   ·exact hz'
section
variable {g : Arc -> Arc}
theorem E7w (hg:∀c,(g c).feat=c.feat) (l:List Arc) (f:Int):∀k,posA (l.map g) f k=posA l f k
 | 0=>rfl
 | k+1=>by
  simp only[posA,List.getElem?_map,E7w hg l f k]
  cases l[k]? with
  | none=>rfl
  | some y=>simp only[Option.map_some,hg]
theorem G4b (hg:∀c,(g c).feat=c.feat) (x:Arc) (l:List Arc):insA (g x) (l.map g)=(insA x l).map g:=by
 unfold insA
 rw[E7w hg,hg,List.length_map]
 simp
theorem F8l (hg:∀c,(g c).feat=c.feat) (l:List Arc):A3g (l.map g)=(A3g l).map g:=by
 have:∀i,A3m (l.map g) i=(A3m l i).map g:=by
  intro i
  induction i with
  | zero=>rfl
  | succ i ih=>
   simp only[A3m,List.getElem?_map,ih]
   cases l[i]? with
   | none=>rfl
   | some x=>simp only[Option.map_some];exact G4b hg x _
 unfold A3g
 rw[List.length_map,this]
end
theorem B5x {Q:VS->Prop} {v:Nat->VS->VS} (hv:∀n st,Q st->nAt st.1 n<0->Q (v n st)):∀(ar:List Arc) (st:VS),Q st->Q (ar.foldl (A7y v) st)
 | [],st,h=>h
 | a::ar,st,h=>by
  rw[List.foldl_cons]
  by_cases hc:nAt st.1 a.to.toNat<0
  ·have e:A7y v st a=v a.to.toNat st:=if_pos hc
   rw[e]
   exact B5x hv ar _ (hv _ _ h hc)
  ·have e:A7y v st a=st:=if_neg hc
   rw[e]
   exact B5x hv ar st h
def VK (st:VS):Prop:=∀m:Nat,0<=nAt st.1 m->m<st.1.length->st.2[(nAt st.1 m).toNat]?=some (m:Int)
theorem G6b (l:List Nd):∀(k n:Nat) (st:VS),VK st->nAt st.1 n<0->VK (visF l k n st)
 | 0,_,_,h,_=>h
 | k+1,n,st,h,hn=>by
  refine B5x (G6b l k) (A2s l n) _ ?_
  have hnl:=E0f hn
  intro m hp hm
  simp only[List.length_set]at hm
  simp only at hp ⊢
  rw[B3g hnl]at hp ⊢
  by_cases e:m=n
  ·rw[if_pos e,Int.toNat_natCast,e]
   simp
  ·rw[if_neg e]at hp ⊢
   have:=h m hp hm
   rw[List.getElem?_append_left (List.getElem?_eq_some_iff.1 this).1]
   exact this
theorem F8m (l:List Nd):∀(k n:Nat) (st:VS),∃r,(visF l k n st).2=st.2++r
 | 0,_,st=>⟨[],by simp[visF]⟩
 | k+1,n,st=>by
  obtain⟨r,hr⟩:=B5x (Q:=fun s=>∃r,s.2=st.2++([(n:Int)]++r)) (v:=visF l k) (fun n' s ⟨r,hr⟩ _=>by
   obtain⟨r',hr'⟩:=F8m l k n' s
   exact⟨r++r',by rw[hr',hr];simp⟩) (A2s l n) (st.1.set n (st.2.length:Int),st.2++[(n:Int)]) ⟨[],by simp⟩
  exact⟨_,hr⟩
theorem G4c (l:List Nd) (k n:Nat) (st:VS):∃r,(visF l (k+1) n st).2=st.2++([(n:Int)]++r):=
 B5x (Q:=fun s=>∃r,s.2=st.2++([(n:Int)]++r)) (v:=visF l k) (fun n' s ⟨r,hr⟩ _=>by
   obtain⟨r',hr'⟩:=F8m l k n' s
   exact⟨r++r',by rw[hr',hr];simp⟩) (A2s l n) (st.1.set n (st.2.length:Int),st.2++[(n:Int)]) ⟨[],by simp⟩
section
variable {nf : Nat} {ty : List Typ} {a b : List Nd}
theorem A1d.at' (ha:A1d ty.length nf a):(visA a 0).2.length=a.length/\∀(i:Nat) x,a[i]?=some x->∃n,(visA a 0).2[i]?=some n/\x.type=(ndAt a n).type/\x.arcs=renA (visA a 0).1 (A3g (ndAt a n).arcs):=by
 have hl:(visA a 0).2.length=a.length:=by
  have:=congrArg List.length ha.canon
  simp[A4n]at this
  exact this.symm
 refine⟨hl,fun i x hx=>?_⟩
 have hi:=(List.getElem?_eq_some_iff.1 hx).1
 obtain⟨n,hn⟩:∃n,(visA a 0).2[i]?=some n:=⟨_,List.getElem?_eq_getElem (by omega)⟩
 have h1:(a.map Nd.key)[i]?=some x.key:=by rw[List.getElem?_map,hx];rfl
 have h2:((A4n a 0).map Nd.key)[i]?=some (C4c (visA a 0).1 (ndAt a n)).key:=by
  unfold A4n
  rw[List.getElem?_map,List.getElem?_map,hn]
  rfl
 rw[ha.canon,h2]at h1
 injection h1 with h1
 injection h1 with h3 h4
 exact⟨n,hn,h3.symm,h4.symm⟩
theorem A1d.asc (ha:A1d ty.length nf a) {x:Nd} (hx:x∈a):Asc x.arcs:=by
 obtain⟨i,hi,e⟩:=List.getElem_of_mem hx
 obtain⟨n,_,_,h3⟩:=ha.at'.2 i x (by rw[List.getElem?_eq_getElem hi,e])
 have h4:D6u x.arcs:=by
  rw[h3]
  unfold renA D6u
  rw[List.pairwise_map]
  exact F8k _
 refine List.pairwise_iff_getElem.2 fun p q hp hq hpq=>?_
 have h5:=List.pairwise_iff_getElem.1 h4 p q hp hq hpq
 have h6:=ha.form.apart x hx p q _ _ hpq (List.getElem?_eq_getElem hp) (List.getElem?_eq_getElem hq)
 omega
theorem A1d.ord (ha:A1d ty.length nf a):(visA a 0).2=idN a.length:=by
 obtain⟨hvi,hvj⟩:=D6h ha.form.to ha.form.pos
 obtain⟨hl,hat⟩:=ha.at'
 have hpos:=ha.form.pos
 have hk:VK (visA a 0):=by
  refine G6b a a.length 0 (start a) (fun m hp hm=>?_) (by show nAt (List.replicate a.length (-1)) 0<0;rw[B1c hpos];omega)
  have hm':m<a.length:=by simpa[start]using hm
  have:nAt (start a).1 m = -1:=B1c hm'
  omega
 have hroot:nAt (visA a 0).2 0=0:=by
  obtain⟨k,hk⟩:∃k,a.length=k+1:=⟨a.length-1,by omega⟩
  obtain⟨r,hr⟩:=G4c a k 0 (start a)
  refine B5s ?_
  unfold visA
  rw[hk,hr]
  rfl
 have hm:Mor ty a a (visA a 0).2:=by
  refine⟨hl,hroot,fun i hi=>?_,fun i x hx=>?_,fun i x hx c hc=>?_⟩
  ·obtain⟨h1,h2,_⟩:=hvj.at' i _ (B1d (by omega))
   exact⟨h1,h2⟩
  ·obtain⟨n,hn,h1,_⟩:=hat i x hx
   rw[B5s hn,<-h1]
   have hxm:=List.mem_of_getElem? hx
   exact E1d (ha.form.type x hxm) (ha.type x hxm)
  ·obtain⟨n,hn,_,h2⟩:=hat i x hx
   obtain⟨g0,g1,_⟩:=hvj.at' i n hn
   have hc':=hc
   rw[h2]at hc'
   obtain⟨d,hd,e⟩:=List.mem_map.1 hc'
   have hd:=A9f.1 hd
   have hnm:=List.mem_of_getElem? (B6v g0 g1)
   obtain⟨d0,d1⟩:=ha.form.to _ hnm d hd
   have c0:=(ha.form.to x (List.mem_of_getElem? hx) c hc).1
   rw[B5s hn,<-e]
   rw[<-e]at c0
   simp only at c0 ⊢
   rw[D0f (ha.form.apart _ hnm) hd]
   have:=hk d.to.toNat c0 (by rw[hvi.len];omega)
   rw[B5s this]
   omega
 exact hm.uniq ha (E7u ha)
structure Img (m:List Int) (n:Nat) (st st':VS):Prop where
 len:st.1.length=n
 len':st'.1.length=n
 ord:st'.2=st.2.map fun i=>nAt m i.toNat
 num:∀i,i<n->nAt st'.1 (nAt m i).toNat=nAt st.1 i
theorem F8n {m:List Int} {n:Nat} (hlen:a.length=n) (hto:∀x∈a,∀c∈x.arcs,0<=c.to/\c.to<(a.length:Int))
  (hrng:∀i,i<n->0<=nAt m i/\nAt m i<(n:Int)) (hinj:∀i j,i<n->j<n->nAt m i=nAt m j->i=j)
  (harc:∀i,i<n->A2s b (nAt m i).toNat=(A2s a i).map fun c=>⟨c.feat,nAt m c.to.toNat⟩) :
  ∀(k i:Nat) (st st':VS),i<n->Img m n st st'->Img m n (visF a k i st) (visF b k (nAt m i).toNat st')
 | 0,_,_,_,_,h=>h
 | k+1,i,st,st',hi,h=>by
  have IH:=F8n hlen hto hrng hinj harc k
  have hri:=hrng i hi
  have hset:∀v:Int,∀j,j<n->nAt (st'.1.set (nAt m i).toNat v) (nAt m j).toNat=nAt (st.1.set i v) j:=by
   intro v j hj
   have hrj:=hrng j hj
   rw[B3g (by rw[h.len'];omega),B3g (by rw[h.len];exact hi)]
   by_cases e:j=i
   ·rw[if_pos e,if_pos (by rw[e])]
   ·rw[if_neg e,if_neg (fun e'=>e (hinj j i hj hi (by omega)))]
    exact h.num j hj
  have h0:Img m n (st.1.set i (st.2.length:Int),st.2++[(i:Int)]) (st'.1.set (nAt m i).toNat (st'.2.length:Int),st'.2++[((nAt m i).toNat:Int)]):=by
   have hl:st'.2.length=st.2.length:=by rw[h.ord];simp
   refine⟨by simp[h.len],by simp[h.len'],?_,fun j hj=>?_⟩
   ·simp only[List.map_append,List.map_cons,List.map_nil,Int.toNat_natCast]
    rw[h.ord]
    congr 2
    omega
   ·simp only
    rw[hl]
    exact hset _ j hj
  have fold:∀(ar:List Arc) (s s':VS),(∀c∈ar,0<=c.to/\c.to<(n:Int))->Img m n s s'->Img m n (ar.foldl (A7y (visF a k)) s) ((ar.map fun c=>(⟨c.feat,nAt m c.to.toNat⟩:Arc)).foldl (A7y (visF b k)) s'):=by
   intro ar
   induction ar with
   | nil=>intro s s' _ hs;exact hs
   | cons c ar ih=>
    intro s s' hc hs
    obtain⟨c0,c1⟩:=hc c List.mem_cons_self
    have hcn:c.to.toNat<n:=by omega
    simp only[List.map_cons,List.foldl_cons]
    refine ih _ _ (fun d hd=>hc d (List.mem_cons_of_mem _ hd)) ?_
    have hnum:=hs.num c.to.toNat hcn
    unfold A7y
    simp only
    rw[hnum]
    by_cases hneg:nAt s.1 c.to.toNat<0
    ·rw[if_pos hneg,if_pos hneg]
     exact IH _ s s' hcn hs
    ·rw[if_neg hneg,if_neg hneg]
     exact hs
  unfold visF
  rw[harc i hi]
  refine fold _ _ _ (fun c hc=>?_) h0
  unfold A2s at hc
  split at hc
  ·rename_i x hx
   have:=hto x (List.mem_of_getElem? hx) c (A9f.1 hc)
   omega
  ·cases hc
def C6a (ty:List Typ):Prop:=∀(i j:Nat) x y,ty[i]?=some x->ty[j]?=some y->subL x.code y.code=true->subL y.code x.code=true->i=j
theorem F8o {m n:List Int} (ha:A1d ty.length nf a) (h:Mor ty a b m) (h':Mor ty b a n):a.length<=b.length:=by
 have hid:=F8j ha h h'
 have hnd:m.Nodup:=by
  rw[List.nodup_iff_pairwise_ne,List.pairwise_iff_getElem]
  intro i j hi hj hij e
  have e1:=B1d hi
  have e2:=B1d hj
  rw[List.getElem?_eq_getElem hi]at e1
  rw[List.getElem?_eq_getElem hj]at e2
  injection e1 with e1
  injection e2 with e2
  have h1:=hid i (by rw[<-h.len];exact hi)
  have h2:=hid j (by rw[<-h.len];exact hj)
  rw[<-e1,e,e2,h2]at h1
  omega
 have:=nodup_le (l:=m) (m:=idN b.length) hnd fun x hx=>by
  obtain⟨i,hi,e⟩:=List.getElem_of_mem hx
  have:=h.rng i (by rw[<-h.len];exact hi)
  have e1:=B1d hi
  rw[List.getElem?_eq_getElem hi,e]at e1
  injection e1 with e1
  rw[<-e1]at this
  refine List.mem_map.2 ⟨x.toNat,List.mem_range.2 (by omega),by omega⟩
 rw[h.len]at this
 simpa[idN]using this
theorem anti {m n:List Int} (hty:C6a ty) (ha:A1d ty.length nf a) (hb:A1d ty.length nf b) (h:Mor ty a b m) (h':Mor ty b a n):a.map Nd.key=b.map Nd.key:=by
 have hab:=F8o ha h h'
 have hba:=F8o hb h' h
 have hlen:a.length=b.length:=by omega
 have hid:=F8j ha h h'
 have hrng:∀i,i<a.length->0<=nAt m i/\nAt m i<(a.length:Int):=fun i hi=>by
  have:=h.rng i hi
  omega
 have hinj:∀i j,i<a.length->j<a.length->nAt m i=nAt m j->i=j:=fun i j hi hj e=>by
  have h1:=hid i hi
  have h2:=hid j hj
  rw[e,h2]at h1
  omega
 have arcs:∀(i:Nat) x,a[i]?=some x->(ndAt b (nAt m i)).arcs=x.arcs.map fun c=>⟨c.feat,nAt m c.to.toNat⟩:=by
  intro i x hx
  have hi:=(List.getElem?_eq_some_iff.1 hx).1
  have hxm:=List.mem_of_getElem? hx
  obtain⟨r0,r1⟩:=h.rng i hi
  have hbg:=B6v r0 r1
  have hbm:=List.mem_of_getElem? hbg
  refine G6a (hb.asc hbm) ?_ fun q=>⟨fun hq=>?_,fun hq=>?_⟩
  ·unfold Asc
   rw[List.pairwise_map]
   exact ha.asc hxm
  ·have hq1:=h'.arc _ _ hbg q hq
   rw[hid i hi,A7h hx]at hq1
   have hqb:=hb.form.to _ hbm q hq
   have hq2:=(h'.rng q.to.toNat (by omega)).1
   rw[<-hq1]at hq2
   obtain⟨k,_,_,h3⟩:=B9i x q.feat
   rcases h3 with⟨_,h5,_⟩ | ⟨d,h4,h5,h6,_⟩
   ·omega
   ·have hd:=List.mem_of_getElem? h4
    have h7:=h.arc i x hx d hd
    rw[h5,D0f (hb.form.apart _ hbm) hq]at h7
    refine List.mem_map.2 ⟨d,hd,?_⟩
    cases q
    simp only at h5 h7
    rw[h5,h7]
  ·obtain⟨d,hd,e⟩:=List.mem_map.1 hq
   have h7:=h.arc i x hx d hd
   have hdt:=ha.form.to x hxm d hd
   have h8:=(h.rng d.to.toNat (by omega)).1
   rw[<-h7]at h8
   obtain⟨k,_,_,h3⟩:=B9i (ndAt b (nAt m i)) d.feat
   rcases h3 with⟨_,h5,_⟩ | ⟨p,h4,h5,h6,_⟩
   ·omega
   ·have hp:=List.mem_of_getElem? h4
    have:q=p:=by
     rw[<-e]
     cases p
     simp only at h5 h6
     rw[<-h5,<-h7,<-h6]
    rw[this];exact hp
 have harc:∀i,i<a.length->A2s b (nAt m i).toNat=(A2s a i).map fun c=>⟨c.feat,nAt m c.to.toNat⟩:=by
  intro i hi
  have hx:a[i]?=some a[i]:=List.getElem?_eq_getElem hi
  obtain⟨r0,r1⟩:=h.rng i hi
  have hbg:=B6v r0 r1
  unfold A2s
  rw[hbg,hx]
  simp only
  rw[arcs i _ hx]
  exact F8l (g:=fun c=>(⟨c.feat,nAt m c.to.toNat⟩:Arc)) (fun _=>rfl) _
 have himg:=F8n (b:=b) rfl ha.form.to hrng hinj harc a.length 0 (start a) (start b) ha.form.pos ⟨by simp[start],by simp[start,hlen],rfl,fun i hi=>by
  show nAt (List.replicate b.length (-1)) _=nAt (List.replicate a.length (-1)) i
  have:=hrng i hi
  rw[B1c (by omega),B1c hi]⟩
 have hord:=himg.ord
 rw[h.root]at hord
 have e1:(visF a a.length 0 (start a)).2=idN a.length:=ha.ord
 have e2:(visF b a.length (0:Int).toNat (start b)).2=idN b.length:=by rw[hlen];exact hb.ord
 rw[e1,e2]at hord
 have hm:∀i,i<a.length->nAt m i=(i:Int):=by
  intro i hi
  have h1:(idN b.length)[i]?=some (i:Int):=by simp[idN,List.getElem?_range (by omega:i<b.length)]
  rw[hord,List.getElem?_map]at h1
  have h2:(idN a.length)[i]?=some (i:Int):=by simp[idN,List.getElem?_range hi]
  rw[h2]at h1
  simp only[Option.map_some,Int.toNat_natCast]at h1
  injection h1
 refine List.ext_getElem (by simpa using hlen) fun i hi hi'=>?_
 simp only[List.length_map]at hi hi'
 have hx:a[i]?=some a[i]:=List.getElem?_eq_getElem hi
 have hy:b[i]?=some b[i]:=List.getElem?_eq_getElem hi'
 have hnb:ndAt b (nAt m i)=b[i]:=by rw[hm i hi];exact A7h hy
 simp only[List.getElem_map,Nd.key]
 have hA:=arcs i _ hx
 rw[hnb]at hA
 have hmap:(a[i].arcs.map fun c=>(⟨c.feat,nAt m c.to.toNat⟩:Arc))=a[i].arcs:=by
  have:a[i].arcs.map (fun c=>(⟨c.feat,nAt m c.to.toNat⟩:Arc))=a[i].arcs.map id:=List.map_congr_left fun c hc=>by
   have:=ha.form.to _ (List.getElem_mem hi) c hc
   rw[hm c.to.toNat (by omega)]
   cases c
   simp only at this ⊢
   simp only[id]
   congr 1
   omega
  rw[this,List.map_id]
 rw[hmap]at hA
 have ht1:=h.type i _ hx
 rw[hnb]at ht1
 have hni:nAt n i=(i:Int):=by
  have:=hid i hi
  rw[hm i hi,Int.toNat_natCast]at this
  exact this
 have ht2:=h'.type i _ hy
 rw[hni,A7h hx]at ht2
 have hat:=ha.form.type _ (List.getElem_mem hi)
 have hbt:=hb.form.type _ (List.getElem_mem hi')
 have ham:=ha.type _ (List.getElem_mem hi)
 have hbm:=hb.type _ (List.getElem_mem hi')
 obtain⟨p,q,x,y,ep,eq',hxp,hyq,e3⟩:=E4h (ty:=ty) ⟨hat,ham⟩ ⟨hbt,hbm⟩
 obtain⟨q2,p2,y2,x2,eq2,ep2,hy2,hx2,e4⟩:=E4h (ty:=ty) ⟨hbt,hbm⟩ ⟨hat,ham⟩
 have hpp:p2=p:=by omega
 have hqq:q2=q:=by omega
 rw[hpp,hxp]at hx2
 rw[hqq,hyq]at hy2
 injection hx2 with hx2
 injection hy2 with hy2
 rw[e3]at ht1
 rw[e4,<-hx2,<-hy2]at ht2
 have:=hty p q x y hxp hyq ht2 ht1
 rw[ep,eq',this,hA]
theorem F8p (ha:A1d ty.length nf a) (h:a.map Nd.key=b.map Nd.key):Mor ty a b (idN a.length):=by
 have hlen:a.length=b.length:=by simpa using congrArg List.length h
 have hk:∀(i:Nat) x,a[i]?=some x->(ndAt b (nAt (idN a.length) i)).key=x.key:=by
  intro i x hx
  have hi:=(List.getElem?_eq_some_iff.1 hx).1
  have hy:b[i]?=some b[i]:=List.getElem?_eq_getElem (by omega)
  rw[B9n hi,A7h hy]
  have h1:(a.map Nd.key)[i]?=some x.key:=by rw[List.getElem?_map,hx];rfl
  have h2:(b.map Nd.key)[i]?=some (b[i]).key:=by rw[List.getElem?_map,hy];rfl
  rw[h,h2]at h1
  injection h1
 have hid:=E7u ha
 have hat:∀{i:Nat} {x:Nd},a[i]?=some x->ndAt a (nAt (idN a.length) i)=x:=fun {i x} hx=>by
  rw[B9n (List.getElem?_eq_some_iff.1 hx).1]
  exact A7h hx
 refine⟨hid.len,hid.root,fun i hi=>by have:=hid.rng i hi;omega,fun i x hx=>?_,fun i x hx c hc=>?_⟩
 ·have h1:=hid.type i x hx
  rw[hat hx]at h1
  have h2:=hk i x hx
  injection h2 with h2 _
  rw[h2];exact h1
 ·have h1:=hid.arc i x hx c hc
  rw[hat hx]at h1
  have h2:=hk i x hx
  injection h2 with _ h2
  rw[<-h1]
  unfold tgt
  rw[h2]
end
theorem F8q {l:List Str} {s:Str} (h:l.Nodup) (hs:s∉l):(put l s).Nodup:=by
 unfold put
 simp only
 split
 ·exact h
 ·rw[List.append_assoc]
  refine(List.Perm.nodup_iff List.perm_middle).2 ?_
  show(s::(l.take _++l.drop _)).Nodup
  rw[List.take_append_drop]
  exact List.nodup_cons.2 ⟨hs,h⟩
theorem E4r {d:List TD} (hg:Good d):(names d).Nodup:=by
 have key:∀j,j<=d.length->(A1z d j).Nodup/\∀s∈A1z d j,∃(i:Nat) (x:TD),i<j/\d[i]?=some x/\x.name=s:=by
  intro j
  induction j with
  | zero=>exact fun _=>⟨by simp[A1z],fun s hs=>by simp[A1z]at hs⟩
  | succ j ih=>
   intro hj
   obtain⟨h1,h2⟩:=ih (by omega)
   have hx:d[j]?=some d[j]:=List.getElem?_eq_getElem (by omega)
   rw[B0z hx]
   refine⟨F8q h1 fun hm=>?_,fun s hs=>?_⟩
   ·obtain⟨i,y,hi,hy,e⟩:=h2 _ hm
    have a1:=hg.idx i y hy
    have a2:=hg.idx j _ hx
    rw[e,a2]at a1
    omega
   ·rcases D5w.1 hs with hs | hs
    ·obtain⟨i,y,hi,hy,e⟩:=h2 s hs
     exact⟨i,y,by omega,hy,e⟩
    ·exact⟨j,_,by omega,hx,hs.symm⟩
 have:=(key d.length (Nat.le_refl _)).1
 unfold A1z at this
 rw[List.take_length]at this
 exact this
def D1s (l:List (List W)):Prop:=l.Nodup/\∀x∈l,Norm x
theorem D6v {d:List TD} (hg:Good d):D1s (A0o d):=by
 refine⟨?_,fun x hx=>?_⟩
 ·unfold A0o
  have hn:=E4r hg
  rw[List.nodup_iff_pairwise_ne,List.pairwise_map]
  refine List.Pairwise.imp_of_mem (fun {a b} ha hb hab e=>?_) hn
  refine hab (E6t hg ha hb ?_)
  rw[e]
  unfold eqS
  rw[C1p]
  rfl
 ·unfold A0o at hx
  obtain⟨s,_,rfl⟩:=List.mem_map.1 hx
  unfold A4m
  exact B1o _
theorem D6w {i:Nat} {l:List (List W)} {k:Nat} (h:D1s l):D1s (A7d i l k):=by
 unfold A7d
 split
 ·split
  ·exact h
  ·rename_i hc
   have hin:inB l (andN (l.getD i []) (l.getD k []))≠true:=fun e=>hc (.inr e)
   refine⟨?_,fun x hx=>?_⟩
   ·rw[List.nodup_append]
    refine⟨h.1,by simp,fun x hx y hy e=>?_⟩
    simp only[List.mem_singleton]at hy
    subst hy
    subst e
    exact hin (List.any_eq_true.2 ⟨_,hx,by simp⟩)
   ·rcases List.mem_append.1 hx with hx | hx
    ·exact h.2 x hx
    ·simp only[List.mem_singleton]at hx
     subst hx
     exact B1o _
 ·exact h
theorem E1g {l:List (List W)} (h:D1s l):D1s (A1t l):=by
 have h1:∀(i:Nat) (l:List (List W)) (k:Nat),D1s l->D1s (A3v i l k):=by
  intro i l k hl
  induction k with
  | zero=>exact hl
  | succ k ih=>exact D6w ih
 have h2:∀(f i:Nat) (l:List (List W)),D1s l->D1s (famF f i l):=by
  intro f
  induction f with
  | zero=>exact fun i l hl=>hl
  | succ f ih=>
   intro i l hl
   unfold famF
   split
   ·exact ih _ _ (h1 i l i hl)
   ·exact hl
 exact h2 300 0 l h
theorem G4d (x:Co) (out:List Co):((ins x out).map Co.code).Perm (x.code::out.map Co.code):=by
 unfold ins
 rw[List.append_assoc,List.map_append,List.map_append]
 refine List.perm_middle.trans ?_
 show(x.code::((out.take _).map Co.code++(out.drop _).map Co.code)).Perm _
 rw[<-List.map_append,List.take_append_drop]
theorem D0g (d:List TD) (all:List Str) (codes f:List (List W)):∀j,j<=f.length->((coUp d all codes f j).map Co.code).Perm (f.take j)
 | 0,_=>by simp[coUp]
 | j+1,hj=>by
  have hgd:f[j]?=some (f.getD j []):=by simp[List.getD_eq_getElem?_getD,show j<f.length by omega]
  simp only[coUp]
  refine(G4d _ _).trans ?_
  rw[List.take_add_one,hgd]
  refine List.Perm.trans (List.Perm.cons _ (D0g d all codes f j (by omega))) ?_
  exact(List.perm_append_singleton _ _).symm
theorem D0h {d:List TD} (hg:Good d):D1s ((A0p d).map Co.code):=by
 have h:=E1g (D6v hg)
 have hp:=D0g d (names d) (A0o d) (A1t (A0o d)) _ (Nat.le_refl _)
 rw[List.take_length]at hp
 exact⟨hp.nodup_iff.2 h.1,fun x hx=>h.2 x (hp.mem_iff.1 hx)⟩
theorem D0i (d:List TD):∀i,i<=(A0p d).length->(tyUp d i).map Typ.code=((A0p d).take i).map Co.code
 | 0,_=>by simp[tyUp]
 | i+1,h=>by
  have hx:(A0p d)[i]?=some (A0p d)[i]:=List.getElem?_eq_getElem (by omega)
  simp only[tyUp,hx]
  rw[List.map_append,D0i d i (by omega),List.take_add_one,hx,List.map_append]
  rfl
theorem E7x {d:List TD} (hg:Good d):C6a (A8v d):=by
 have h:=D0h hg
 have hc:=D0i d (A0p d).length (Nat.le_refl _)
 rw[List.take_length]at hc
 have hc:(A8v d).map Typ.code=(A0p d).map Co.code:=hc
 rw[<-hc]at h
 intro i j x y hx hy h1 h2
 have e:x.code=y.code:=Norm.ext (h.2 _ (List.mem_map_of_mem (List.mem_of_getElem? hx))) (h.2 _ (List.mem_map_of_mem (List.mem_of_getElem? hy))) (F8i h1 h2)
 have g1:((A8v d).map Typ.code)[i]?=some x.code:=by rw[List.getElem?_map,hx];rfl
 have g2:((A8v d).map Typ.code)[j]?=some x.code:=by rw[List.getElem?_map,hy,e];rfl
 obtain⟨hi,e1⟩:=List.getElem?_eq_some_iff.1 g1
 obtain⟨hj,e2⟩:=List.getElem?_eq_some_iff.1 g2
 have hp:=List.pairwise_iff_getElem.1 (List.nodup_iff_pairwise_ne.1 h.1)
 rcases Nat.lt_trichotomy i j with hlt | heq | hgt
 ·exact absurd (e1.trans e2.symm) (hp i j hi hj hlt)
 ·exact heq
 ·exact absurd (e2.trans e1.symm) (hp j i hj hi hgt)
theorem G8g {d:List TD} (hd:d.length<=12->DOK d):C6a (hOf d).1:=by
 unfold hOf
 split
 ·rename_i h
  exact E7x (A2m (hd h.1) h.2).good
 ·split
  ·rename_i h
   exact E7x (A2m C4h h).good
  ·intro i j x y hx
   simp at hx
section
variable {nf : Nat} {ty : List Typ} {a b : List Nd}
theorem E1h (hty:C6a ty) (ha:A1d ty.length nf a) (hb:A1d ty.length nf b):(morB ty a b&&morB ty b a)=eqE a b:=by
 rw[Bool.eq_iff_iff,Bool.and_eq_true,A4o,A4o,E4f]
 constructor
 ·rintro⟨⟨m,hm⟩,n,hn⟩
  exact anti hty ha hb hm hn
 ·intro h
  exact⟨⟨_,F8p ha h⟩,_,F8p hb h.symm⟩
end
end Go.Proofs.Ytbiadmfmjnoecaa
