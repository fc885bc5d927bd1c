/- Auxiliary facts. -/
import Derived.Calls
import Derived.Tactics
import Derived.LoopN
import Derived.Laws.World
import Derived.Laws.AppendOwn
set_option linter.unusedSimpArgs false
set_option linter.unusedVariables false
open Nat renaming lt_of_lt_of_le->Xa,le_trans->Xc,le_refl->Xd
open Array renaming getElem?_eq_some_iff->Xb
open List renaming map_nil->Xe,map_cons->Xf
namespace Go
theorem zz {c:Prop} {h:Decidable c} (n:¬c) {α:Sort _} {t e:α}:ite c t e=e:=if_neg n
theorem zy {c:Prop} {h:Decidable c} (n:c) {α:Sort _} {t e:α}:ite c t e=t:=if_pos n
theorem zx {p:Prop} [Decidable p] (h:¬p):decide p=false:=decide_eq_false h
theorem zw {p:Prop} [Decidable p] (h:p):decide p=true:=decide_eq_true h
theorem zu {α:Type _} [BEq α] [LawfulBEq α] {a b:α}:(a==b)=false ↔ a≠b:=_root_.beq_eq_false_iff_ne
end Go
namespace Go.Abs
open Go
inductive T where
 | v (x:Value)
 | sl (n:Nat) (cs:List T)
 | ag (cs:List T)
 | tu (cs:List T)
 | pt (cs:List T)
 | ic (t:TypeId) (x:T)
 deriving Inhabited
mutual
def An (I:Nat->Prop) (w:World):T->Value->Prop
 | .v x,u=>u=x
 | .sl n cs,u=>∃(a:Addr) (c:Nat),u = .slice (some a) n c/\n<=c/\((n=0/\cs=[])\/(a.spot=none/\I a.block/\Bq I w cs a.block a.off))
 | .ag cs,u=>∃us:Array Value,u = .agg us/\(∀x∈us.toList,x.oneCell'=true)/\Ba I w cs us.toList
 | .tu cs,u=>∃us:Array Value,u = .tuple us/\Ba I w cs us.toList
 | .pt cs,u=>∃b o,u = .pointer (some ⟨b,o,none⟩)/\I b/\Bq I w cs b o
 | .ic t x,u=>∃y,u = .iface t y/\An I w x y
def Bq (I:Nat->Prop) (w:World):List T->Nat->Nat->Prop
 | [],_,_=>True
 | c::cs,b,o=>(∃x,w.cell? ⟨b,o,none⟩=some x/\x.oneCell'=true/\An I w c x)/\Bq I w cs b (o+1)
def Ba (I:Nat->Prop) (w:World):List T->List Value->Prop
 | [],us=>us=[]
 | c::cs,us=>∃x xs,us=x::xs/\An I w c x/\Ba I w cs xs
end
def F7 (I I':Nat->Prop) (w w':World):Prop:=∀b,I b->I' b/\w'.heap[b]?=w.heap[b]?
theorem F7.cell {I I':Nat->Prop} {w w':World} (h:F7 I I' w w') {b o:Nat} (hb:I b):w'.cell? ⟨b,o,none⟩=w.cell? ⟨b,o,none⟩:=by
 simp[World.cell?,(h b hb).2]
mutual
theorem An.keep {I I':Nat->Prop} {w w':World} (h:F7 I I' w w'):∀(t:T) {u:Value},An I w t u->An I' w' t u
 | .v _,_,hr=>by simpa only[An]using hr
 | .sl n cs,_,hr=>by
  simp only[An]at hr ⊢;obtain⟨a,c,e,hc,hb⟩:=hr;exact⟨a,c,e,hc,hb.imp id (λhb=>⟨hb.1,(h _ hb.2.1).1,Bq.keep h cs hb.2.1 hb.2.2⟩)⟩
 | .ag cs,_,hr=>by
  simp only[An]at hr ⊢;obtain⟨us,e,h1,hl⟩:=hr;exact⟨us,e,h1,Ba.keep h cs hl⟩
 | .tu cs,_,hr=>by
  simp only[An]at hr ⊢;obtain⟨us,e,hl⟩:=hr;exact⟨us,e,Ba.keep h cs hl⟩
 | .pt cs,_,hr=>by
  simp only[An]at hr ⊢;obtain⟨b,o,e,hb,hcs⟩:=hr;exact⟨b,o,e,(h b hb).1,Bq.keep h cs hb hcs⟩
 | .ic t x,_,hr=>by
  simp only[An]at hr ⊢;obtain⟨y,e,hy⟩:=hr;exact⟨y,e,An.keep h x hy⟩
theorem Bq.keep {I I':Nat->Prop} {w w':World} (h:F7 I I' w w'):∀(cs:List T) {b o:Nat},I b->Bq I w cs b o->Bq I' w' cs b o
 | [],_,_,_,_=>by simp only[Bq]
 | c::cs,b,o,hb,hr=>by
  simp only[Bq]at hr ⊢;obtain⟨⟨x,hx,h1,hc⟩,hcs⟩:=hr;exact⟨⟨x,(h.cell hb).trans hx,h1,An.keep h c hc⟩,Bq.keep h cs hb hcs⟩
theorem Ba.keep {I I':Nat->Prop} {w w':World} (h:F7 I I' w w'):∀(cs:List T) {us:List Value},Ba I w cs us->Ba I' w' cs us
 | [],_,hr=>by simpa only[Ba]using hr
 | c::cs,_,hr=>by
  simp only[Ba]at hr ⊢;obtain⟨x,xs,e,hx,hxs⟩:=hr;exact⟨x,xs,e,An.keep h c hx,Ba.keep h cs hxs⟩
end
theorem Ba.length {I:Nat->Prop} {w:World}:∀{cs:List T} {us:List Value},Ba I w cs us->us.length=cs.length
 | [],_,hr=>by simp only[Ba]at hr;simp[hr]
 | c::cs,_,hr=>by
  simp only[Ba]at hr;obtain⟨x,xs,e,_,hxs⟩:=hr;simp[e,Ba.length hxs]
theorem Bq.drop {I:Nat->Prop} {w:World}:∀{cs:List T} {b o:Nat} (k:Nat),Bq I w cs b o->Bq I w (cs.drop k) b (o+k)
 | cs,b,o,0,h=>by simpa using h
 | [],b,o,k+1,h=>by simp only[List.drop_nil,Bq]
 | c::cs,b,o,k+1,h=>by
  simp only[Bq]at h;have:=Bq.drop k h.2;simpa[Nat.add_comm,Nat.add_left_comm,Nat.add_assoc]using this
theorem Bq.take {I:Nat->Prop} {w:World}:∀{cs:List T} {b o:Nat} (k:Nat),Bq I w cs b o->Bq I w (cs.take k) b o
 | cs,b,o,0,h=>by simp only[List.take_zero,Bq]
 | [],b,o,k+1,h=>by simp only[List.take_nil,Bq]
 | c::cs,b,o,k+1,h=>by
  simp only[Bq,List.take_succ_cons]at h ⊢;exact⟨h.1,Bq.take k h.2⟩
theorem Bq.at_ {I:Nat->Prop} {w:World}:∀{cs:List T} {b o:Nat} (k:Nat) {c:T},Bq I w cs b o->cs[k]?=some c->∃x,w.cell? ⟨b,o+k,none⟩=some x/\x.oneCell'=true/\An I w c x
 | [],b,o,k,c,_,hk=>by simp at hk
 | d::cs,b,o,0,c,h,hk=>by
  simp only[Bq]at h
  have e:d=c:=by simpa using hk
  subst e;exact h.1
 | d::cs,b,o,k+1,c,h,hk=>by
  simp only[Bq]at h;have:=Bq.at_ k h.2 (by simpa using hk);rwa[show o+1+k=o+(k+1)by omega]at this
theorem Bq.mk {I:Nat->Prop} {w:World}:∀{cs:List T} {b o:Nat},(∀(k:Nat) c,cs[k]?=some c->∃x,w.cell? ⟨b,o+k,none⟩=some x/\x.oneCell'=true/\An I w c x)->Bq I w cs b o
 | [],b,o,_=>by simp only[Bq]
 | d::cs,b,o,h=>by
  simp only[Bq];refine⟨by simpa using h 0 d (by simp),Bq.mk λk c hk=>?_⟩;have:=h (k+1) c (by simpa using hk);rwa[show o+(k+1)=o+1+k by omega]at this
theorem Ba.at_ {I:Nat->Prop} {w:World}:∀{cs:List T} {us:List Value} (k:Nat) {c:T},Ba I w cs us->cs[k]?=some c->∃x,us[k]?=some x/\An I w c x
 | [],us,k,c,_,hk=>by simp at hk
 | d::cs,us,0,c,h,hk=>by
  simp only[Ba]at h;obtain⟨x,xs,e,hx,_⟩:=h
  have ed:d=c:=by simpa using hk
  subst ed;exact⟨x,by simp[e],hx⟩
 | d::cs,us,k+1,c,h,hk=>by
  simp only[Ba]at h;obtain⟨x,xs,e,_,hxs⟩:=h;obtain⟨y,hy,hr⟩:=Ba.at_ k hxs (by simpa using hk);exact⟨y,by simp[e,hy],hr⟩
inductive PV where
 | t (x:T)
 | row (b o n z:Nat)
 | ptr (b o:Nat)
 | ag (cs:List PV)
 | tu (cs:List PV)
 | fn (f:Fn) (first cap:List PV)
 | ic (t:TypeId) (x:PV)
 | mp (b:Nat)
 | dead
 deriving Inhabited
inductive Key where
 | n (ns:List Int)
 | s (b:ByteArray)
 deriving DecidableEq
inductive KK where
 | int (k:IntKind)
 | str
 | ints (m:Nat)
 deriving DecidableEq
def Key.val:KK->Key->Value
 | .int k,.n [x]=>.int k x
 | .str,.s b=>.string b
 | .ints _,.n ns=>.agg (ns.map (.int .i64)).toArray
 | _,_=>undef
def Key.ok:KK->Key->Bool
 | .int _,.n [_]=>true
 | .str,.s _=>true
 | .ints m,.n ns=>ns.length==m
 | _,_=>false
inductive Row where
 | cells (ty:TypeId) (cs:List PV)
 | iter (s:ByteArray) (pos:Nat)
 | map (kk:KK) (es:List (Key×Value))
 | lp (l:Nat) (x:Loop) (k:Nat) (p:PV)
 | blk (l:Option Nat) (o:Obj)
 deriving Inhabited
structure Loc where
 I:Nat->Prop
 μ:Nat->Nat
 nx:Nat
mutual
def Ae (P:Program) (L:Loc) (w:World):PV->Value->Prop
 | .t x,u=>An L.I w x u
 | .row b o n z,u=>b<L.nx/\L.μ b<w.heap.size/\∃c,u = .slice (some ⟨L.μ b,o,none⟩) n c/\n<=c/\∀arr ty fz,w.heap[L.μ b]?=some (.cells arr ty fz)->o+c*z<=arr.size
 | .ptr b o,u=>b<L.nx/\u = .pointer (some ⟨L.μ b,o,none⟩)
 | .ag cs,u=>∃us:Array Value,u = .agg us/\(∀x∈us.toList,x.oneCell'=true)/\A3 P L w cs us.toList
 | .tu cs,u=>∃us:Array Value,u = .tuple us/\A3 P L w cs us.toList
 | .fn f first cap,u=>∃us vs:Array Value,u = .func f us vs/\A3 P L w first us.toList/\A3 P L w cap vs.toList
 | .ic t x,u=>∃y,u = .iface t y/\Ae P L w x y
 | .mp b,u=>b<L.nx/\u = .map (some (L.μ b))
 | .dead,_=>True
def A3 (P:Program) (L:Loc) (w:World):List PV->List Value->Prop
 | [],us=>us=[]
 | c::cs,us=>∃x xs,us=x::xs/\Ae P L w c x/\A3 P L w cs xs
end
def Aa {α:Type}:List (Nat×α)->Nat->Option α
 | [],_=>none
 | (k,x)::r,j=>if k=j then some x else Aa r j
abbrev Ab:=List (Nat×Row)
def C9 (P:Program) (L:Loc) (w:World) (g:Nat):Row->Prop
 | .cells ty cs=>∃arr,w.heap[g]?=some (.cells arr ty (0,0))/\cs.length<=arr.size/\∀(j:Nat) c,cs[j]?=some c->∃x,arr[j]?=some x/\x.oneCell'=true/\Ae P L w c x
 | .iter s pos=>w.heap[g]?=some (.stringIter s pos)
 | .map kk es=>∃arr clock,w.heap[g]?=some (.map arr clock)/\arr.toList.map (λe=>(e.key,e.val))=es.map (λe=>(e.1.val kk,e.2))/\(∀e∈es,e.1.ok kk=true)/\(es.map (·.1)).Nodup/\(arr.toList.map (·.born)).Nodup/\∀e∈arr.toList,e.born<clock
 | .lp l x k p=>g=l/\w.heap[g]?=some (.loop x)/\Ae P L w p (x.tmps.getD k undef)
 | .blk l o=>(∀x,l=some x->g=x)/\w.heap[g]?=some o
abbrev Ay:=List (Nat×List T)
def Ev (I:Nat->Prop) (w:World) (cs:List T) (g:Nat):Prop:=Bq I w cs g 0/\∃arr ty fz,w.heap[g]?=some (.cells arr ty fz)/\arr.size=cs.length
theorem Ev.keep {I I':Nat->Prop} {w w':World} (h:F7 I I' w w') {cs:List T} {g:Nat} (hg:I g) (hr:Ev I w cs g):Ev I' w' cs g:=by
 obtain⟨h1,arr,ty,fz,h2,h3⟩:=hr;exact⟨Bq.keep h cs hg h1,arr,ty,fz,(h g hg).2.trans h2,h3⟩
structure Bx (P:Program) (G:Ay) (L:Loc) (H:Ab) (w:World):Prop where
 lt:∀b,L.I b->b<w.heap.size
 rep:∀b r,Aa H b=some r->C9 P L w (L.μ b) r
 apart:∀b r,Aa H b=some r->¬L.I (L.μ b)
 inj:∀b b' r r',Aa H b=some r->Aa H b'=some r'->L.μ b=L.μ b'->b=b'
 nx:∀b r,Aa H b=some r->b<L.nx
 glob:∀g cs,Aa G g=some cs->L.I g/\Ev L.I w cs g
def Fl (L:Loc) (H:Ab) (g:Nat):Prop:=∃b r,Aa H b=some r/\L.μ b=g
def BT (w w':World):Prop:=∀g,g<w.heap.size->∀arr ty fz,w'.heap[g]?=some (.cells arr ty fz)->∃arr0 fz0,w.heap[g]?=some (.cells arr0 ty fz0)/\arr0.size=arr.size
theorem BT.refl (w:World):BT w w:=λ_ _ arr _ fz h=>⟨arr,fz,h,rfl⟩
theorem BT.trans {w w1 w2:World} (h:BT w w1) (hs:w.heap.size<=w1.heap.size) (h':BT w1 w2):BT w w2:=λg hg arr ty fz e=>by
 obtain⟨a1,f1,e1,s1⟩:=h' g (by omega) arr ty fz e;obtain⟨a0,f0,e0,s0⟩:=h g hg a1 ty f1 e1;exact⟨a0,f0,e0,s0.trans s1⟩
def BL (w w':World):Prop:=w'.os=w.os/\w'.tape=w.tape/\w'.output=w.output
theorem BL.refl (w:World):BL w w:=⟨rfl,rfl,rfl⟩
theorem BL.trans {w w1 w2:World} (h:BL w w1) (h':BL w1 w2):BL w w2:=⟨h'.1.trans h.1,h'.2.1.trans h.2.1,h'.2.2.trans h.2.2⟩
structure Ext (L:Loc) (H:Ab) (w:World) (L':Loc) (H':Ab) (w':World):Prop where
 size:w.heap.size<=w'.heap.size
 same:∀g,g<w.heap.size->¬Fl L H g->w'.heap[g]?=w.heap[g]?
 more:∀g,L.I g->L'.I g
 new:∀g,L'.I g->L.I g\/w.heap.size<=g\/Fl L H g
 mine:∀g,Fl L' H' g->w.heap.size<=g\/Fl L H g
 shape:BT w w'
 outer:BL w w'
theorem C9.lt {P:Program} {L:Loc} {w:World} {g:Nat} {r:Row} (h:C9 P L w g r):g<w.heap.size:=by
 cases r with
 | cells ty cs=>obtain⟨arr,h,_⟩:=h;exact(Xb.1 h).1
 | iter s pos=>exact(Xb.1 h).1
 | map kk es=>obtain⟨arr,c,h,_⟩:=h;exact(Xb.1 h).1
 | lp l x k p=>exact(Xb.1 h.2.1).1
 | blk l o=>exact(Xb.1 h.2).1
theorem Ext.refl (L:Loc) (H:Ab) (w:World):Ext L H w L H w:=
 ⟨Xd _,λ_ _ _=>rfl,λ_ h=>h,λ_ h=>.inl h,λ_ h=>.inr h,BT.refl w,BL.refl w⟩
theorem Ext.trans {L L1 L2:Loc} {H H1 H2:Ab} {w w1 w2:World} (h:Ext L H w L1 H1 w1) (h':Ext L1 H1 w1 L2 H2 w2):Ext L H w L2 H2 w2 where
 size:=Xc h.size h'.size
 same:=λg hg hm=>by
  rw[h'.same g (Xa hg h.size) (λhm'=>(h.mine g hm').elim (by omega) hm),h.same g hg hm]
 more:=λg hg=>h'.more g (h.more g hg)
 new:=λg hg=>by
  rcases h'.new g hg with h1 | h1 | h1
  .exact h.new g h1
  .exact .inr (.inl (Xc h.size h1))
  .rcases h.mine g h1 with h2 | h2
   .exact .inr (.inl h2)
   .exact .inr (.inr h2)
 mine:=λg hg=>by
  rcases h'.mine g hg with h1 | h1
  .exact .inl (Xc h.size h1)
  .exact h.mine g h1
 shape:=h.shape.trans h.size h'.shape
 outer:=h.outer.trans h'.outer
theorem Ext.keeps {P:Program} {G:Ay} {L L':Loc} {H H':Ab} {w w':World} (hok:Bx P G L H w) (h:Ext L H w L' H' w'):F7 L.I L'.I w w':=
 λb hb=>⟨h.more b hb,h.same b (hok.lt b hb) (λ⟨_,_,hl,e⟩=>hok.apart _ _ hl (e▸hb))⟩
structure AO (L:Loc) (w:World) (L':Loc) (w':World):Prop where
 keeps:F7 L.I L'.I w w'
 nx:L.nx<=L'.nx
 μ:∀b,b<L.nx->L'.μ b=L.μ b
 size:w.heap.size<=w'.heap.size
 shape:BT w w'
theorem AO.refl (L:Loc) (w:World):AO L w L w:=⟨λ_ h=>⟨h,rfl⟩,Xd _,λ_ _=>rfl,Xd _,BT.refl w⟩
theorem AO.trans {L L1 L2:Loc} {w w1 w2:World} (h:AO L w L1 w1) (h':AO L1 w1 L2 w2):AO L w L2 w2:=
 ⟨λb hb=>⟨(h'.keeps b (h.keeps b hb).1).1,(h'.keeps b (h.keeps b hb).1).2.trans (h.keeps b hb).2⟩,Xc h.nx h'.nx,
  λb hb=>(h'.μ b (Xa hb h.nx)).trans (h.μ b hb),Xc h.size h'.size,h.shape.trans h.size h'.shape⟩
mutual
theorem Ae.keep {P:Program} {L L':Loc} {w w':World} (h:AO L w L' w'):∀(p:PV) {u:Value},Ae P L w p u->Ae P L' w' p u
 | .t x,_,hr=>by simp only[Ae]at hr ⊢;exact An.keep h.keeps x hr
 | .row b o n z,_,hr=>by
  simp only[Ae]at hr ⊢;obtain⟨hb,hm,c,e,hc,hcap⟩:=hr;refine⟨Xa hb h.nx,?_,c,?_,hc,λarr ty fz he=>?_⟩
  .rw[h.μ b hb];exact Xa hm h.size
  .rw[h.μ b hb];exact e
  .rw[h.μ b hb]at he;obtain⟨a0,f0,e0,s0⟩:=h.shape _ hm arr ty fz he;rw[<-s0];exact hcap a0 ty f0 e0
 | .ptr b o,_,hr=>by
  simp only[Ae]at hr ⊢;obtain⟨hb,e⟩:=hr;exact⟨Xa hb h.nx,by rw[h.μ b hb];exact e⟩
 | .ag cs,_,hr=>by
  simp only[Ae]at hr ⊢;obtain⟨us,e,h1,hl⟩:=hr;exact⟨us,e,h1,A3.keep h cs hl⟩
 | .tu cs,_,hr=>by
  simp only[Ae]at hr ⊢;obtain⟨us,e,hl⟩:=hr;exact⟨us,e,A3.keep h cs hl⟩
 | .fn f first cap,_,hr=>by
  simp only[Ae]at hr ⊢;obtain⟨us,vs,e,hl,hl'⟩:=hr;exact⟨us,vs,e,A3.keep h first hl,A3.keep h cap hl'⟩
 | .ic t x,_,hr=>by
  simp only[Ae]at hr ⊢;obtain⟨y,e,hy⟩:=hr;exact⟨y,e,Ae.keep h x hy⟩
 | .mp b,_,hr=>by
  simp only[Ae]at hr ⊢;obtain⟨hb,e⟩:=hr;exact⟨Xa hb h.nx,by rw[h.μ b hb];exact e⟩
 | .dead,_,_=>by simp only[Ae]
theorem A3.keep {P:Program} {L L':Loc} {w w':World} (h:AO L w L' w'):∀(ps:List PV) {us:List Value},A3 P L w ps us->A3 P L' w' ps us
 | [],_,hr=>by simpa only[A3]using hr
 | c::cs,_,hr=>by
  simp only[A3]at hr ⊢;obtain⟨x,xs,e,hx,hxs⟩:=hr;exact⟨x,xs,e,Ae.keep h c hx,A3.keep h cs hxs⟩
end
theorem A3.at_ {P:Program} {L:Loc} {w:World}:∀{cs:List PV} {us:List Value} (k:Nat) {c:PV},A3 P L w cs us->cs[k]?=some c->∃x,us[k]?=some x/\Ae P L w c x
 | [],us,k,c,_,hk=>by simp at hk
 | d::cs,us,0,c,h,hk=>by
  simp only[A3]at h;obtain⟨x,xs,e,hx,_⟩:=h
  have ed:d=c:=by simpa using hk
  subst ed;exact⟨x,by simp[e],hx⟩
 | d::cs,us,k+1,c,h,hk=>by
  simp only[A3]at h;obtain⟨x,xs,e,_,hxs⟩:=h;obtain⟨y,hy,hr⟩:=A3.at_ k hxs (by simpa using hk);exact⟨y,by simp[e,hy],hr⟩
theorem A3.length {P:Program} {L:Loc} {w:World}:∀{cs:List PV} {us:List Value},A3 P L w cs us->us.length=cs.length
 | [],_,hr=>by simp only[A3]at hr;simp[hr]
 | c::cs,_,hr=>by
  simp only[A3]at hr;obtain⟨x,xs,e,_,hxs⟩:=hr;simp[e,A3.length hxs]
theorem A3.mk {P:Program} {L:Loc} {w:World}:∀{cs:List PV} {us:List Value},us.length=cs.length->(∀(k:Nat) c x,cs[k]?=some c->us[k]?=some x->Ae P L w c x)->A3 P L w cs us
 | [],us,hl,_=>by simp only[A3];exact List.eq_nil_of_length_eq_zero (by simpa using hl)
 | d::cs,[],hl,_=>by simp at hl
 | d::cs,u::us,hl,h=>by
  simp only[A3];exact⟨u,us,rfl,h 0 d u (by simp) (by simp),A3.mk (by simpa using hl) λk c x hc hx=>h (k+1) c x (by simpa using hc) (by simpa using hx)⟩
theorem A3.ofT {P:Program} {L:Loc} {w:World}:∀{cs:List T} {us:List Value},Ba L.I w cs us->A3 P L w (cs.map .t) us
 | [],_,hr=>by simp only[Ba]at hr;simp only[Xe,A3];exact hr
 | c::cs,_,hr=>by
  simp only[Ba]at hr;obtain⟨x,xs,e,hx,hxs⟩:=hr;simp only[Xf,A3,Ae];exact⟨x,xs,e,hx,A3.ofT hxs⟩
theorem A3.toT {P:Program} {L:Loc} {w:World}:∀{cs:List T} {us:List Value},A3 P L w (cs.map .t) us->Ba L.I w cs us
 | [],_,hr=>by simp only[Xe,A3]at hr;simp only[Ba];exact hr
 | c::cs,_,hr=>by
  simp only[Xf,A3,Ae]at hr;obtain⟨x,xs,e,hx,hxs⟩:=hr;simp only[Ba];exact⟨x,xs,e,hx,A3.toT hxs⟩
end Go.Abs
