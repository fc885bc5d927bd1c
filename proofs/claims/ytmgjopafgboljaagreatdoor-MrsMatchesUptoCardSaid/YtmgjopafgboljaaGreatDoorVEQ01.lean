/- Auxiliary facts. -/
import Derived.Calls
import Derived.Tactics
import Derived.LoopN
import Derived.Laws.World
import Derived.Laws.AppendOwn
set_option linter.unusedSimpArgs false
set_option linter.unusedVariables false
namespace Go.Abs
open Go
inductive T where
 | v (x:Value)
 | sl (n:Nat) (cs:List T)
 | ag (cs:List T)
 | tu (cs:List T)
 | pt (cs:List T)
 | ic (t:TypeId) (x:T)
 deriving Inhabited
mutual
def RepT (I:Nat->Prop) (w:World):T->Value->Prop
 | .v x,u=>u=x
 | .sl n cs,u=>∃(a:Addr) (c:Nat),u = .slice (some a) n c/\n<=c/\((n=0/\cs=[])\/(a.spot=none/\I a.block/\RepC I w cs a.block a.off))
 | .ag cs,u=>∃us:Array Value,u = .agg us/\(∀x∈us.toList,x.oneCell'=true)/\RepL I w cs us.toList
 | .tu cs,u=>∃us:Array Value,u = .tuple us/\RepL I w cs us.toList
 | .pt cs,u=>∃b o,u = .pointer (some ⟨b,o,none⟩)/\I b/\RepC I w cs b o
 | .ic t x,u=>∃y,u = .iface t y/\RepT I w x y
def RepC (I:Nat->Prop) (w:World):List T->Nat->Nat->Prop
 | [],_,_=>True
 | c::cs,b,o=>(∃x,w.cell? ⟨b,o,none⟩=some x/\x.oneCell'=true/\RepT I w c x)/\RepC I w cs b (o+1)
def RepL (I:Nat->Prop) (w:World):List T->List Value->Prop
 | [],us=>us=[]
 | c::cs,us=>∃x xs,us=x::xs/\RepT I w c x/\RepL I w cs xs
end
def C3h (I I':Nat->Prop) (w w':World):Prop:=∀b,I b->I' b/\w'.heap[b]?=w.heap[b]?
theorem C3h.cell {I I':Nat->Prop} {w w':World} (h:C3h I I' w w') {b o:Nat} (hb:I b):w'.cell? ⟨b,o,none⟩=w.cell? ⟨b,o,none⟩:=by
 simp[World.cell?,(h b hb).2]
mutual
theorem RepT.keep {I I':Nat->Prop} {w w':World} (h:C3h I I' w w'):∀(t:T) {u:Value},RepT I w t u->RepT I' w' t u
 | .v _,_,hr=>by simpa only[RepT]using hr
 | .sl n cs,_,hr=>by
  simp only[RepT]at hr ⊢;obtain⟨a,c,e,hc,hb⟩:=hr;exact⟨a,c,e,hc,hb.imp id (fun hb=>⟨hb.1,(h _ hb.2.1).1,RepC.keep h cs hb.2.1 hb.2.2⟩)⟩
 | .ag cs,_,hr=>by
  simp only[RepT]at hr ⊢;obtain⟨us,e,h1,hl⟩:=hr;exact⟨us,e,h1,RepL.keep h cs hl⟩
 | .tu cs,_,hr=>by
  simp only[RepT]at hr ⊢;obtain⟨us,e,hl⟩:=hr;exact⟨us,e,RepL.keep h cs hl⟩
 | .pt cs,_,hr=>by
  simp only[RepT]at hr ⊢;obtain⟨b,o,e,hb,hcs⟩:=hr;exact⟨b,o,e,(h b hb).1,RepC.keep h cs hb hcs⟩
 | .ic t x,_,hr=>by
  simp only[RepT]at hr ⊢;obtain⟨y,e,hy⟩:=hr;exact⟨y,e,RepT.keep h x hy⟩
theorem RepC.keep {I I':Nat->Prop} {w w':World} (h:C3h I I' w w'):∀(cs:List T) {b o:Nat},I b->RepC I w cs b o->RepC I' w' cs b o
 | [],_,_,_,_=>by simp only[RepC]
 | c::cs,b,o,hb,hr=>by
  simp only[RepC]at hr ⊢;obtain⟨⟨x,hx,h1,hc⟩,hcs⟩:=hr;exact⟨⟨x,(h.cell hb).trans hx,h1,RepT.keep h c hc⟩,RepC.keep h cs hb hcs⟩
theorem RepL.keep {I I':Nat->Prop} {w w':World} (h:C3h I I' w w'):∀(cs:List T) {us:List Value},RepL I w cs us->RepL I' w' cs us
 | [],_,hr=>by simpa only[RepL]using hr
 | c::cs,_,hr=>by
  simp only[RepL]at hr ⊢;obtain⟨x,xs,e,hx,hxs⟩:=hr;exact⟨x,xs,e,RepT.keep h c hx,RepL.keep h cs hxs⟩
end
theorem RepL.length {I:Nat->Prop} {w:World}:∀{cs:List T} {us:List Value},RepL I w cs us->us.length=cs.length
 | [],_,hr=>by simp only[RepL]at hr;simp[hr]
 | c::cs,_,hr=>by
  simp only[RepL]at hr;obtain⟨x,xs,e,_,hxs⟩:=hr;simp[e,RepL.length hxs]
theorem RepC.drop {I:Nat->Prop} {w:World}:∀{cs:List T} {b o:Nat} (k:Nat),RepC I w cs b o->RepC I w (cs.drop k) b (o+k)
 | cs,b,o,0,h=>by simpa using h
 | [],b,o,k+1,h=>by simp only[List.drop_nil,RepC]
 | c::cs,b,o,k+1,h=>by
  simp only[RepC]at h;have:=RepC.drop k h.2;simpa[Nat.add_comm,Nat.add_left_comm,Nat.add_assoc]using this
theorem RepC.take {I:Nat->Prop} {w:World}:∀{cs:List T} {b o:Nat} (k:Nat),RepC I w cs b o->RepC I w (cs.take k) b o
 | cs,b,o,0,h=>by simp only[List.take_zero,RepC]
 | [],b,o,k+1,h=>by simp only[List.take_nil,RepC]
 | c::cs,b,o,k+1,h=>by
  simp only[RepC,List.take_succ_cons]at h ⊢;exact⟨h.1,RepC.take k h.2⟩
theorem RepC.at_ {I:Nat->Prop} {w:World}:∀{cs:List T} {b o:Nat} (k:Nat) {c:T},RepC I w cs b o->cs[k]?=some c->∃x,w.cell? ⟨b,o+k,none⟩=some x/\x.oneCell'=true/\RepT I w c x
 | [],b,o,k,c,_,hk=>by simp at hk
 | d::cs,b,o,0,c,h,hk=>by
  simp only[RepC]at h
  have e:d=c:=by simpa using hk
  subst e;exact h.1
 | d::cs,b,o,k+1,c,h,hk=>by
  simp only[RepC]at h;have:=RepC.at_ k h.2 (by simpa using hk);rwa[show o+1+k=o+(k+1)by omega]at this
theorem RepC.mk {I:Nat->Prop} {w:World}:∀{cs:List T} {b o:Nat},(∀(k:Nat) c,cs[k]?=some c->∃x,w.cell? ⟨b,o+k,none⟩=some x/\x.oneCell'=true/\RepT I w c x)->RepC I w cs b o
 | [],b,o,_=>by simp only[RepC]
 | d::cs,b,o,h=>by
  simp only[RepC];refine⟨by simpa using h 0 d (by simp),RepC.mk fun k c hk=>?_⟩;have:=h (k+1) c (by simpa using hk);rwa[show o+(k+1)=o+1+k by omega]at this
theorem RepL.at_ {I:Nat->Prop} {w:World}:∀{cs:List T} {us:List Value} (k:Nat) {c:T},RepL I w cs us->cs[k]?=some c->∃x,us[k]?=some x/\RepT I w c x
 | [],us,k,c,_,hk=>by simp at hk
 | d::cs,us,0,c,h,hk=>by
  simp only[RepL]at h;obtain⟨x,xs,e,hx,_⟩:=h
  have ed:d=c:=by simpa using hk
  subst ed;exact⟨x,by simp[e],hx⟩
 | d::cs,us,k+1,c,h,hk=>by
  simp only[RepL]at h;obtain⟨x,xs,e,_,hxs⟩:=h;obtain⟨y,hy,hr⟩:=RepL.at_ k hxs (by simpa using hk);exact⟨y,by simp[e,hy],hr⟩
inductive PV where
 | t (x:T)
 | row (b o n z:Nat)
 | ptr (b o:Nat)
 | ag (cs:List PV)
 | tu (cs:List PV)
 | fn (f:Fn) (first cap:List PV)
 | ic (t:TypeId) (x:PV)
 | mp (b:Nat)
 | dead
 deriving Inhabited
inductive Key where
 | n (ns:List Int)
 | s (b:ByteArray)
 deriving DecidableEq
inductive KK where
 | int (k:IntKind)
 | str
 | ints (m:Nat)
 deriving DecidableEq
def Key.val:KK->Key->Value
 | .int k,.n [x]=>.int k x
 | .str,.s b=>.string b
 | .ints _,.n ns=>.agg (ns.map (.int .i64)).toArray
 | _,_=>undef
def Key.ok:KK->Key->Bool
 | .int _,.n [_]=>true
 | .str,.s _=>true
 | .ints m,.n ns=>ns.length==m
 | _,_=>false
inductive Row where
 | cells (ty:TypeId) (cs:List PV)
 | iter (s:ByteArray) (pos:Nat)
 | map (kk:KK) (es:List (Key×Value))
 | lp (l:Nat) (x:Loop) (k:Nat) (p:PV)
 | blk (l:Option Nat) (o:Obj)
 deriving Inhabited
structure Loc where
 I:Nat->Prop
 μ:Nat->Nat
 nx:Nat
mutual
def RepV (P:Program) (L:Loc) (w:World):PV->Value->Prop
 | .t x,u=>RepT L.I w x u
 | .row b o n z,u=>b<L.nx/\L.μ b<w.heap.size/\∃c,u = .slice (some ⟨L.μ b,o,none⟩) n c/\n<=c/\∀arr ty fz,w.heap[L.μ b]?=some (.cells arr ty fz)->o+c*z<=arr.size
 | .ptr b o,u=>b<L.nx/\u = .pointer (some ⟨L.μ b,o,none⟩)
 | .ag cs,u=>∃us:Array Value,u = .agg us/\(∀x∈us.toList,x.oneCell'=true)/\A0y P L w cs us.toList
 | .tu cs,u=>∃us:Array Value,u = .tuple us/\A0y P L w cs us.toList
 | .fn f first cap,u=>∃us vs:Array Value,u = .func f us vs/\A0y P L w first us.toList/\A0y P L w cap vs.toList
 | .ic t x,u=>∃y,u = .iface t y/\RepV P L w x y
 | .mp b,u=>b<L.nx/\u = .map (some (L.μ b))
 | .dead,_=>True
def A0y (P:Program) (L:Loc) (w:World):List PV->List Value->Prop
 | [],us=>us=[]
 | c::cs,us=>∃x xs,us=x::xs/\RepV P L w c x/\A0y P L w cs xs
end
def look {α:Type}:List (Nat×α)->Nat->Option α
 | [],_=>none
 | (k,x)::r,j=>if k=j then some x else look r j
abbrev Heap:=List (Nat×Row)
def A4e (P:Program) (L:Loc) (w:World) (g:Nat):Row->Prop
 | .cells ty cs=>∃arr,w.heap[g]?=some (.cells arr ty (0,0))/\cs.length<=arr.size/\∀(j:Nat) c,cs[j]?=some c->∃x,arr[j]?=some x/\x.oneCell'=true/\RepV P L w c x
 | .iter s pos=>w.heap[g]?=some (.stringIter s pos)
 | .map kk es=>∃arr clock,w.heap[g]?=some (.map arr clock)/\arr.toList.map (fun e=>(e.key,e.val))=es.map (fun e=>(e.1.val kk,e.2))/\(∀e∈es,e.1.ok kk=true)/\(es.map (·.1)).Nodup/\(arr.toList.map (·.born)).Nodup/\∀e∈arr.toList,e.born<clock
 | .lp l x k p=>g=l/\w.heap[g]?=some (.loop x)/\RepV P L w p (x.tmps.getD k undef)
 | .blk l o=>(∀x,l=some x->g=x)/\w.heap[g]?=some o
abbrev A1c:=List (Nat×List T)
def RepG (I:Nat->Prop) (w:World) (cs:List T) (g:Nat):Prop:=RepC I w cs g 0/\∃arr ty fz,w.heap[g]?=some (.cells arr ty fz)/\arr.size=cs.length
theorem RepG.keep {I I':Nat->Prop} {w w':World} (h:C3h I I' w w') {cs:List T} {g:Nat} (hg:I g) (hr:RepG I w cs g):RepG I' w' cs g:=by
 obtain⟨h1,arr,ty,fz,h2,h3⟩:=hr;exact⟨RepC.keep h cs hg h1,arr,ty,fz,(h g hg).2.trans h2,h3⟩
structure A1o (P:Program) (G:A1c) (L:Loc) (H:Heap) (w:World):Prop where
 lt:∀b,L.I b->b<w.heap.size
 rep:∀b r,look H b=some r->A4e P L w (L.μ b) r
 apart:∀b r,look H b=some r->¬L.I (L.μ b)
 inj:∀b b' r r',look H b=some r->look H b'=some r'->L.μ b=L.μ b'->b=b'
 nx:∀b r,look H b=some r->b<L.nx
 glob:∀g cs,look G g=some cs->L.I g/\RepG L.I w cs g
def Mine (L:Loc) (H:Heap) (g:Nat):Prop:=∃b r,look H b=some r/\L.μ b=g
def A1y (w w':World):Prop:=∀g,g<w.heap.size->∀arr ty fz,w'.heap[g]?=some (.cells arr ty fz)->∃arr0 fz0,w.heap[g]?=some (.cells arr0 ty fz0)/\arr0.size=arr.size
theorem A1y.refl (w:World):A1y w w:=fun _ _ arr _ fz h=>⟨arr,fz,h,rfl⟩
theorem A1y.trans {w w1 w2:World} (h:A1y w w1) (hs:w.heap.size<=w1.heap.size) (h':A1y w1 w2):A1y w w2:=fun g hg arr ty fz e=>by
 obtain⟨a1,f1,e1,s1⟩:=h' g (by omega) arr ty fz e;obtain⟨a0,f0,e0,s0⟩:=h g hg a1 ty f1 e1;exact⟨a0,f0,e0,s0.trans s1⟩
def A3v (w w':World):Prop:=w'.os=w.os/\w'.tape=w.tape/\w'.output=w.output
theorem A3v.refl (w:World):A3v w w:=⟨rfl,rfl,rfl⟩
theorem A3v.trans {w w1 w2:World} (h:A3v w w1) (h':A3v w1 w2):A3v w w2:=⟨h'.1.trans h.1,h'.2.1.trans h.2.1,h'.2.2.trans h.2.2⟩
structure Ext (L:Loc) (H:Heap) (w:World) (L':Loc) (H':Heap) (w':World):Prop where
 size:w.heap.size<=w'.heap.size
 same:∀g,g<w.heap.size->¬Mine L H g->w'.heap[g]?=w.heap[g]?
 more:∀g,L.I g->L'.I g
 new:∀g,L'.I g->L.I g\/w.heap.size<=g\/Mine L H g
 mine:∀g,Mine L' H' g->w.heap.size<=g\/Mine L H g
 shape:A1y w w'
 outer:A3v w w'
theorem A4e.lt {P:Program} {L:Loc} {w:World} {g:Nat} {r:Row} (h:A4e P L w g r):g<w.heap.size:=by
 cases r with
 | cells ty cs=>obtain⟨arr,h,_⟩:=h;exact(Array.getElem?_eq_some_iff.1 h).1
 | iter s pos=>exact(Array.getElem?_eq_some_iff.1 h).1
 | map kk es=>obtain⟨arr,c,h,_⟩:=h;exact(Array.getElem?_eq_some_iff.1 h).1
 | lp l x k p=>exact(Array.getElem?_eq_some_iff.1 h.2.1).1
 | blk l o=>exact(Array.getElem?_eq_some_iff.1 h.2).1
theorem Ext.refl (L:Loc) (H:Heap) (w:World):Ext L H w L H w:=
 ⟨Nat.le_refl _,fun _ _ _=>rfl,fun _ h=>h,fun _ h=>.inl h,fun _ h=>.inr h,A1y.refl w,A3v.refl w⟩
theorem Ext.trans {L L1 L2:Loc} {H H1 H2:Heap} {w w1 w2:World} (h:Ext L H w L1 H1 w1) (h':Ext L1 H1 w1 L2 H2 w2):Ext L H w L2 H2 w2 where
 size:=Nat.le_trans h.size h'.size
 same:=fun g hg hm=>by
  rw[h'.same g (Nat.lt_of_lt_of_le hg h.size) (fun hm'=>(h.mine g hm').elim (by omega) hm),h.same g hg hm]
 more:=fun g hg=>h'.more g (h.more g hg)
 new:=fun g hg=>by
  rcases h'.new g hg with h1 | h1 | h1
  ·exact h.new g h1
  ·exact .inr (.inl (Nat.le_trans h.size h1))
  ·rcases h.mine g h1 with h2 | h2
   ·exact .inr (.inl h2)
   ·exact .inr (.inr h2)
 mine:=fun g hg=>by
  rcases h'.mine g hg with h1 | h1
  ·exact .inl (Nat.le_trans h.size h1)
  ·exact h.mine g h1
 shape:=h.shape.trans h.size h'.shape
 outer:=h.outer.trans h'.outer
theorem Ext.keeps {P:Program} {G:A1c} {L L':Loc} {H H':Heap} {w w':World} (hok:A1o P G L H w) (h:Ext L H w L' H' w'):C3h L.I L'.I w w':=
 fun b hb=>⟨h.more b hb,h.same b (hok.lt b hb) (fun⟨_,_,hl,e⟩=>hok.apart _ _ hl (e▸hb))⟩
structure Mono (L:Loc) (w:World) (L':Loc) (w':World):Prop where
 keeps:C3h L.I L'.I w w'
 nx:L.nx<=L'.nx
 μ:∀b,b<L.nx->L'.μ b=L.μ b
 size:w.heap.size<=w'.heap.size
 shape:A1y w w'
theorem Mono.refl (L:Loc) (w:World):Mono L w L w:=⟨fun _ h=>⟨h,rfl⟩,Nat.le_refl _,fun _ _=>rfl,Nat.le_refl _,A1y.refl w⟩
theorem Mono.trans {L L1 L2:Loc} {w w1 w2:World} (h:Mono L w L1 w1) (h':Mono L1 w1 L2 w2):Mono L w L2 w2:=
 ⟨fun b hb=>⟨(h'.keeps b (h.keeps b hb).1).1,(h'.keeps b (h.keeps b hb).1).2.trans (h.keeps b hb).2⟩,Nat.le_trans h.nx h'.nx,
  fun b hb=>(h'.μ b (Nat.lt_of_lt_of_le hb h.nx)).trans (h.μ b hb),Nat.le_trans h.size h'.size,h.shape.trans h.size h'.shape⟩
mutual
theorem RepV.keep {P:Program} {L L':Loc} {w w':World} (h:Mono L w L' w'):∀(p:PV) {u:Value},RepV P L w p u->RepV P L' w' p u
 | .t x,_,hr=>by simp only[RepV]at hr ⊢;exact RepT.keep h.keeps x hr
 | .row b o n z,_,hr=>by
  simp only[RepV]at hr ⊢;obtain⟨hb,hm,c,e,hc,hcap⟩:=hr;refine⟨Nat.lt_of_lt_of_le hb h.nx,?_,c,?_,hc,fun arr ty fz he=>?_⟩
  ·rw[h.μ b hb];exact Nat.lt_of_lt_of_le hm h.size
  ·rw[h.μ b hb];exact e
  ·rw[h.μ b hb]at he;obtain⟨a0,f0,e0,s0⟩:=h.shape _ hm arr ty fz he;rw[<-s0];exact hcap a0 ty f0 e0
 | .ptr b o,_,hr=>by
  simp only[RepV]at hr ⊢;obtain⟨hb,e⟩:=hr;exact⟨Nat.lt_of_lt_of_le hb h.nx,by rw[h.μ b hb];exact e⟩
 | .ag cs,_,hr=>by
  simp only[RepV]at hr ⊢;obtain⟨us,e,h1,hl⟩:=hr;exact⟨us,e,h1,A0y.keep h cs hl⟩
 | .tu cs,_,hr=>by
  simp only[RepV]at hr ⊢;obtain⟨us,e,hl⟩:=hr;exact⟨us,e,A0y.keep h cs hl⟩
 | .fn f first cap,_,hr=>by
  simp only[RepV]at hr ⊢;obtain⟨us,vs,e,hl,hl'⟩:=hr;exact⟨us,vs,e,A0y.keep h first hl,A0y.keep h cap hl'⟩
 | .ic t x,_,hr=>by
  simp only[RepV]at hr ⊢;obtain⟨y,e,hy⟩:=hr;exact⟨y,e,RepV.keep h x hy⟩
 | .mp b,_,hr=>by
  simp only[RepV]at hr ⊢;obtain⟨hb,e⟩:=hr;exact⟨Nat.lt_of_lt_of_le hb h.nx,by rw[h.μ b hb];exact e⟩
 | .dead,_,_=>by simp only[RepV]
theorem A0y.keep {P:Program} {L L':Loc} {w w':World} (h:Mono L w L' w'):∀(ps:List PV) {us:List Value},A0y P L w ps us->A0y P L' w' ps us
 | [],_,hr=>by simpa only[A0y]using hr
 | c::cs,_,hr=>by
  simp only[A0y]at hr ⊢;obtain⟨x,xs,e,hx,hxs⟩:=hr;exact⟨x,xs,e,RepV.keep h c hx,A0y.keep h cs hxs⟩
end
theorem A0y.at_ {P:Program} {L:Loc} {w:World}:∀{cs:List PV} {us:List Value} (k:Nat) {c:PV},A0y P L w cs us->cs[k]?=some c->∃x,us[k]?=some x/\RepV P L w c x
 | [],us,k,c,_,hk=>by simp at hk
 | d::cs,us,0,c,h,hk=>by
  simp only[A0y]at h;obtain⟨x,xs,e,hx,_⟩:=h
  have ed:d=c:=by simpa using hk
  subst ed;exact⟨x,by simp[e],hx⟩
 | d::cs,us,k+1,c,h,hk=>by
  simp only[A0y]at h;obtain⟨x,xs,e,_,hxs⟩:=h;obtain⟨y,hy,hr⟩:=A0y.at_ k hxs (by simpa using hk);exact⟨y,by simp[e,hy],hr⟩
theorem A0y.length {P:Program} {L:Loc} {w:World}:∀{cs:List PV} {us:List Value},A0y P L w cs us->us.length=cs.length
 | [],_,hr=>by simp only[A0y]at hr;simp[hr]
 | c::cs,_,hr=>by
  simp only[A0y]at hr;obtain⟨x,xs,e,_,hxs⟩:=hr;simp[e,A0y.length hxs]
theorem A0y.mk {P:Program} {L:Loc} {w:World}:∀{cs:List PV} {us:List Value},us.length=cs.length->(∀(k:Nat) c x,cs[k]?=some c->us[k]?=some x->RepV P L w c x)->A0y P L w cs us
 | [],us,hl,_=>by simp only[A0y];exact List.eq_nil_of_length_eq_zero (by simpa using hl)
 | d::cs,[],hl,_=>by simp at hl
 | d::cs,u::us,hl,h=>by
  simp only[A0y];exact⟨u,us,rfl,h 0 d u (by simp) (by simp),A0y.mk (by simpa using hl) fun k c x hc hx=>h (k+1) c x (by simpa using hc) (by simpa using hx)⟩
theorem A0y.ofT {P:Program} {L:Loc} {w:World}:∀{cs:List T} {us:List Value},RepL L.I w cs us->A0y P L w (cs.map .t) us
 | [],_,hr=>by simp only[RepL]at hr;simp only[List.map_nil,A0y];exact hr
 | c::cs,_,hr=>by
  simp only[RepL]at hr;obtain⟨x,xs,e,hx,hxs⟩:=hr;simp only[List.map_cons,A0y,RepV];exact⟨x,xs,e,hx,A0y.ofT hxs⟩
theorem A0y.toT {P:Program} {L:Loc} {w:World}:∀{cs:List T} {us:List Value},A0y P L w (cs.map .t) us->RepL L.I w cs us
 | [],_,hr=>by simp only[List.map_nil,A0y]at hr;simp only[RepL];exact hr
 | c::cs,_,hr=>by
  simp only[List.map_cons,A0y,RepV]at hr;obtain⟨x,xs,e,hx,hxs⟩:=hr;simp only[RepL];exact⟨x,xs,e,hx,A0y.toT hxs⟩
end Go.Abs
