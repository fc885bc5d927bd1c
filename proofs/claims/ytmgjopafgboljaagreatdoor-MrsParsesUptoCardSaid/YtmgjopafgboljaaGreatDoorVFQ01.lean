/- Auxiliary facts. -/
import Derived.Calls
import Derived.Tactics
import Derived.LoopN
import Derived.Laws.World
import Derived.Laws.AppendOwn
set_option linter.unusedSimpArgs false
set_option linter.unusedVariables false
open Nat renaming lt_of_lt_of_le->Xc,le_trans->Xe,le_refl->Xf
open Array renaming getElem?_eq_some_iff->Xd
open List renaming map_nil->Xg,map_cons->Xh
namespace Go
theorem zw {c:Prop} {h:Decidable c} (n:¬c) {α:Sort _} {t e:α}:ite c t e=e:=if_neg n
theorem zu {c:Prop} {h:Decidable c} (n:c) {α:Sort _} {t e:α}:ite c t e=t:=if_pos n
theorem zt {p:Prop} [Decidable p] (h:¬p):decide p=false:=decide_eq_false h
theorem zq {p:Prop} [Decidable p] (h:p):decide p=true:=decide_eq_true h
theorem zp {α:Type _} [BEq α] [LawfulBEq α] {a b:α}:(a==b)=false ↔ a≠b:=_root_.beq_eq_false_iff_ne
end Go
namespace Go.Abs
open Go
inductive T where
 | v (x:Value)
 | sl (n:Nat) (cs:List T)
 | ag (cs:List T)
 | tu (cs:List T)
 | pt (cs:List T)
 | ic (t:TypeId) (x:T)
 deriving Inhabited
mutual
def AA (I:Nat->Prop) (w:World):T->Value->Prop
 | .v x,u=>u=x
 | .sl n cs,u=>∃(a:Addr) (c:Nat),u = .slice (some a) n c/\n<=c/\((n=0/\cs=[])\/(a.spot=none/\I a.block/\Bs I w cs a.block a.off))
 | .ag cs,u=>∃us:Array Value,u = .agg us/\(∀x∈us.toList,x.oneCell'=true)/\AX I w cs us.toList
 | .tu cs,u=>∃us:Array Value,u = .tuple us/\AX I w cs us.toList
 | .pt cs,u=>∃b o,u = .pointer (some ⟨b,o,none⟩)/\I b/\Bs I w cs b o
 | .ic t x,u=>∃y,u = .iface t y/\AA I w x y
def Bs (I:Nat->Prop) (w:World):List T->Nat->Nat->Prop
 | [],_,_=>True
 | c::cs,b,o=>(∃x,w.cell? ⟨b,o,none⟩=some x/\x.oneCell'=true/\AA I w c x)/\Bs I w cs b (o+1)
def AX (I:Nat->Prop) (w:World):List T->List Value->Prop
 | [],us=>us=[]
 | c::cs,us=>∃x xs,us=x::xs/\AA I w c x/\AX I w cs xs
end
def Gk (I I':Nat->Prop) (w w':World):Prop:=∀b,I b->I' b/\w'.heap[b]?=w.heap[b]?
theorem Gk.cell {I I':Nat->Prop} {w w':World} (h:Gk I I' w w') {b o:Nat} (hb:I b):w'.cell? ⟨b,o,none⟩=w.cell? ⟨b,o,none⟩:=by
 simp[World.cell?,(h b hb).2]
mutual
theorem AA.keep {I I':Nat->Prop} {w w':World} (h:Gk I I' w w'):∀(t:T) {u:Value},AA I w t u->AA I' w' t u
 | .v _,_,hr=>by simpa only[AA]using hr
 | .sl n cs,_,hr=>by
  simp only[AA]at hr ⊢;obtain⟨a,c,e,hc,hb⟩:=hr;exact⟨a,c,e,hc,hb.imp id (λhb=>⟨hb.1,(h _ hb.2.1).1,Bs.keep h cs hb.2.1 hb.2.2⟩)⟩
 | .ag cs,_,hr=>by
  simp only[AA]at hr ⊢;obtain⟨us,e,h1,hl⟩:=hr;exact⟨us,e,h1,AX.keep h cs hl⟩
 | .tu cs,_,hr=>by
  simp only[AA]at hr ⊢;obtain⟨us,e,hl⟩:=hr;exact⟨us,e,AX.keep h cs hl⟩
 | .pt cs,_,hr=>by
  simp only[AA]at hr ⊢;obtain⟨b,o,e,hb,hcs⟩:=hr;exact⟨b,o,e,(h b hb).1,Bs.keep h cs hb hcs⟩
 | .ic t x,_,hr=>by
  simp only[AA]at hr ⊢;obtain⟨y,e,hy⟩:=hr;exact⟨y,e,AA.keep h x hy⟩
theorem Bs.keep {I I':Nat->Prop} {w w':World} (h:Gk I I' w w'):∀(cs:List T) {b o:Nat},I b->Bs I w cs b o->Bs I' w' cs b o
 | [],_,_,_,_=>by simp only[Bs]
 | c::cs,b,o,hb,hr=>by
  simp only[Bs]at hr ⊢;obtain⟨⟨x,hx,h1,hc⟩,hcs⟩:=hr;exact⟨⟨x,(h.cell hb).trans hx,h1,AA.keep h c hc⟩,Bs.keep h cs hb hcs⟩
theorem AX.keep {I I':Nat->Prop} {w w':World} (h:Gk I I' w w'):∀(cs:List T) {us:List Value},AX I w cs us->AX I' w' cs us
 | [],_,hr=>by simpa only[AX]using hr
 | c::cs,_,hr=>by
  simp only[AX]at hr ⊢;obtain⟨x,xs,e,hx,hxs⟩:=hr;exact⟨x,xs,e,AA.keep h c hx,AX.keep h cs hxs⟩
end
theorem AX.length {I:Nat->Prop} {w:World}:∀{cs:List T} {us:List Value},AX I w cs us->us.length=cs.length
 | [],_,hr=>by simp only[AX]at hr;simp[hr]
 | c::cs,_,hr=>by
  simp only[AX]at hr;obtain⟨x,xs,e,_,hxs⟩:=hr;simp[e,AX.length hxs]
theorem Bs.drop {I:Nat->Prop} {w:World}:∀{cs:List T} {b o:Nat} (k:Nat),Bs I w cs b o->Bs I w (cs.drop k) b (o+k)
 | cs,b,o,0,h=>by simpa using h
 | [],b,o,k+1,h=>by simp only[List.drop_nil,Bs]
 | c::cs,b,o,k+1,h=>by
  simp only[Bs]at h;have:=Bs.drop k h.2;simpa[Nat.add_comm,Nat.add_left_comm,Nat.add_assoc]using this
theorem Bs.take {I:Nat->Prop} {w:World}:∀{cs:List T} {b o:Nat} (k:Nat),Bs I w cs b o->Bs I w (cs.take k) b o
 | cs,b,o,0,h=>by simp only[List.take_zero,Bs]
 | [],b,o,k+1,h=>by simp only[List.take_nil,Bs]
 | c::cs,b,o,k+1,h=>by
  simp only[Bs,List.take_succ_cons]at h ⊢;exact⟨h.1,Bs.take k h.2⟩
theorem Bs.at_ {I:Nat->Prop} {w:World}:∀{cs:List T} {b o:Nat} (k:Nat) {c:T},Bs I w cs b o->cs[k]?=some c->∃x,w.cell? ⟨b,o+k,none⟩=some x/\x.oneCell'=true/\AA I w c x
 | [],b,o,k,c,_,hk=>by simp at hk
 | d::cs,b,o,0,c,h,hk=>by
  simp only[Bs]at h
  have e:d=c:=by simpa using hk
  subst e;exact h.1
 | d::cs,b,o,k+1,c,h,hk=>by
  simp only[Bs]at h;have:=Bs.at_ k h.2 (by simpa using hk);rwa[show o+1+k=o+(k+1)by omega]at this
theorem Bs.mk {I:Nat->Prop} {w:World}:∀{cs:List T} {b o:Nat},(∀(k:Nat) c,cs[k]?=some c->∃x,w.cell? ⟨b,o+k,none⟩=some x/\x.oneCell'=true/\AA I w c x)->Bs I w cs b o
 | [],b,o,_=>by simp only[Bs]
 | d::cs,b,o,h=>by
  simp only[Bs];refine⟨by simpa using h 0 d (by simp),Bs.mk λk c hk=>?_⟩;have:=h (k+1) c (by simpa using hk);rwa[show o+(k+1)=o+1+k by omega]at this
theorem AX.at_ {I:Nat->Prop} {w:World}:∀{cs:List T} {us:List Value} (k:Nat) {c:T},AX I w cs us->cs[k]?=some c->∃x,us[k]?=some x/\AA I w c x
 | [],us,k,c,_,hk=>by simp at hk
 | d::cs,us,0,c,h,hk=>by
  simp only[AX]at h;obtain⟨x,xs,e,hx,_⟩:=h
  have ed:d=c:=by simpa using hk
  subst ed;exact⟨x,by simp[e],hx⟩
 | d::cs,us,k+1,c,h,hk=>by
  simp only[AX]at h;obtain⟨x,xs,e,_,hxs⟩:=h;obtain⟨y,hy,hr⟩:=AX.at_ k hxs (by simpa using hk);exact⟨y,by simp[e,hy],hr⟩
inductive PV where
 | t (x:T)
 | row (b o n z:Nat)
 | ptr (b o:Nat)
 | ag (cs:List PV)
 | tu (cs:List PV)
 | fn (f:Fn) (first cap:List PV)
 | ic (t:TypeId) (x:PV)
 | mp (b:Nat)
 | dead
 deriving Inhabited
inductive Key where
 | n (ns:List Int)
 | s (b:ByteArray)
 deriving DecidableEq
inductive KK where
 | int (k:IntKind)
 | str
 | ints (m:Nat)
 deriving DecidableEq
def Key.val:KK->Key->Value
 | .int k,.n [x]=>.int k x
 | .str,.s b=>.string b
 | .ints _,.n ns=>.agg (ns.map (.int .i64)).toArray
 | _,_=>undef
def Key.ok:KK->Key->Bool
 | .int _,.n [_]=>true
 | .str,.s _=>true
 | .ints m,.n ns=>ns.length==m
 | _,_=>false
inductive Row where
 | cells (ty:TypeId) (cs:List PV)
 | iter (s:ByteArray) (pos:Nat)
 | map (kk:KK) (es:List (Key×Value))
 | lp (l:Nat) (x:Loop) (k:Nat) (p:PV)
 | blk (l:Option Nat) (o:Obj)
 deriving Inhabited
structure Loc where
 I:Nat->Prop
 μ:Nat->Nat
 nx:Nat
mutual
def Aq (P:Program) (L:Loc) (w:World):PV->Value->Prop
 | .t x,u=>AA L.I w x u
 | .row b o n z,u=>b<L.nx/\L.μ b<w.heap.size/\∃c,u = .slice (some ⟨L.μ b,o,none⟩) n c/\n<=c/\∀arr ty fz,w.heap[L.μ b]?=some (.cells arr ty fz)->o+c*z<=arr.size
 | .ptr b o,u=>b<L.nx/\u = .pointer (some ⟨L.μ b,o,none⟩)
 | .ag cs,u=>∃us:Array Value,u = .agg us/\(∀x∈us.toList,x.oneCell'=true)/\AJ P L w cs us.toList
 | .tu cs,u=>∃us:Array Value,u = .tuple us/\AJ P L w cs us.toList
 | .fn f first cap,u=>∃us vs:Array Value,u = .func f us vs/\AJ P L w first us.toList/\AJ P L w cap vs.toList
 | .ic t x,u=>∃y,u = .iface t y/\Aq P L w x y
 | .mp b,u=>b<L.nx/\u = .map (some (L.μ b))
 | .dead,_=>True
def AJ (P:Program) (L:Loc) (w:World):List PV->List Value->Prop
 | [],us=>us=[]
 | c::cs,us=>∃x xs,us=x::xs/\Aq P L w c x/\AJ P L w cs xs
end
def Aj {α:Type}:List (Nat×α)->Nat->Option α
 | [],_=>none
 | (k,x)::r,j=>if k=j then some x else Aj r j
abbrev Ak:=List (Nat×Row)
def D0 (P:Program) (L:Loc) (w:World) (g:Nat):Row->Prop
 | .cells ty cs=>∃arr,w.heap[g]?=some (.cells arr ty (0,0))/\cs.length<=arr.size/\∀(j:Nat) c,cs[j]?=some c->∃x,arr[j]?=some x/\x.oneCell'=true/\Aq P L w c x
 | .iter s pos=>w.heap[g]?=some (.stringIter s pos)
 | .map kk es=>∃arr clock,w.heap[g]?=some (.map arr clock)/\arr.toList.map (λe=>(e.key,e.val))=es.map (λe=>(e.1.val kk,e.2))/\(∀e∈es,e.1.ok kk=true)/\(es.map (·.1)).Nodup/\(arr.toList.map (·.born)).Nodup/\∀e∈arr.toList,e.born<clock
 | .lp l x k p=>g=l/\w.heap[g]?=some (.loop x)/\Aq P L w p (x.tmps.getD k undef)
 | .blk l o=>(∀x,l=some x->g=x)/\w.heap[g]?=some o
abbrev AM:=List (Nat×List T)
def Ex (I:Nat->Prop) (w:World) (cs:List T) (g:Nat):Prop:=Bs I w cs g 0/\∃arr ty fz,w.heap[g]?=some (.cells arr ty fz)/\arr.size=cs.length
theorem Ex.keep {I I':Nat->Prop} {w w':World} (h:Gk I I' w w') {cs:List T} {g:Nat} (hg:I g) (hr:Ex I w cs g):Ex I' w' cs g:=by
 obtain⟨h1,arr,ty,fz,h2,h3⟩:=hr;exact⟨Bs.keep h cs hg h1,arr,ty,fz,(h g hg).2.trans h2,h3⟩
structure B1 (P:Program) (G:AM) (L:Loc) (H:Ak) (w:World):Prop where
 lt:∀b,L.I b->b<w.heap.size
 rep:∀b r,Aj H b=some r->D0 P L w (L.μ b) r
 apart:∀b r,Aj H b=some r->¬L.I (L.μ b)
 inj:∀b b' r r',Aj H b=some r->Aj H b'=some r'->L.μ b=L.μ b'->b=b'
 nx:∀b r,Aj H b=some r->b<L.nx
 glob:∀g cs,Aj G g=some cs->L.I g/\Ex L.I w cs g
def Js (L:Loc) (H:Ak) (g:Nat):Prop:=∃b r,Aj H b=some r/\L.μ b=g
def BH (w w':World):Prop:=∀g,g<w.heap.size->∀arr ty fz,w'.heap[g]?=some (.cells arr ty fz)->∃arr0 fz0,w.heap[g]?=some (.cells arr0 ty fz0)/\arr0.size=arr.size
theorem BH.refl (w:World):BH w w:=λ_ _ arr _ fz h=>⟨arr,fz,h,rfl⟩
theorem BH.trans {w w1 w2:World} (h:BH w w1) (hs:w.heap.size<=w1.heap.size) (h':BH w1 w2):BH w w2:=λg hg arr ty fz e=>by
 obtain⟨a1,f1,e1,s1⟩:=h' g (by omega) arr ty fz e;obtain⟨a0,f0,e0,s0⟩:=h g hg a1 ty f1 e1;exact⟨a0,f0,e0,s0.trans s1⟩
def BR (w w':World):Prop:=w'.os=w.os/\w'.tape=w.tape/\w'.output=w.output
theorem BR.refl (w:World):BR w w:=⟨rfl,rfl,rfl⟩
theorem BR.trans {w w1 w2:World} (h:BR w w1) (h':BR w1 w2):BR w w2:=⟨h'.1.trans h.1,h'.2.1.trans h.2.1,h'.2.2.trans h.2.2⟩
structure Ext (L:Loc) (H:Ak) (w:World) (L':Loc) (H':Ak) (w':World):Prop where
 size:w.heap.size<=w'.heap.size
 same:∀g,g<w.heap.size->¬Js L H g->w'.heap[g]?=w.heap[g]?
 more:∀g,L.I g->L'.I g
 new:∀g,L'.I g->L.I g\/w.heap.size<=g\/Js L H g
 mine:∀g,Js L' H' g->w.heap.size<=g\/Js L H g
 shape:BH w w'
 outer:BR w w'
theorem D0.lt {P:Program} {L:Loc} {w:World} {g:Nat} {r:Row} (h:D0 P L w g r):g<w.heap.size:=by
 cases r with
 | cells ty cs=>obtain⟨arr,h,_⟩:=h;exact(Xd.1 h).1
 | iter s pos=>exact(Xd.1 h).1
 | map kk es=>obtain⟨arr,c,h,_⟩:=h;exact(Xd.1 h).1
 | lp l x k p=>exact(Xd.1 h.2.1).1
 | blk l o=>exact(Xd.1 h.2).1
theorem Ext.refl (L:Loc) (H:Ak) (w:World):Ext L H w L H w:=
 ⟨Xf _,λ_ _ _=>rfl,λ_ h=>h,λ_ h=>.inl h,λ_ h=>.inr h,BH.refl w,BR.refl w⟩
theorem Ext.trans {L L1 L2:Loc} {H H1 H2:Ak} {w w1 w2:World} (h:Ext L H w L1 H1 w1) (h':Ext L1 H1 w1 L2 H2 w2):Ext L H w L2 H2 w2 where
 size:=Xe h.size h'.size
 same:=λg hg hm=>by
  rw[h'.same g (Xc hg h.size) (λhm'=>(h.mine g hm').elim (by omega) hm),h.same g hg hm]
 more:=λg hg=>h'.more g (h.more g hg)
 new:=λg hg=>by
  rcases h'.new g hg with h1 | h1 | h1
  .exact h.new g h1
  .exact .inr (.inl (Xe h.size h1))
  .rcases h.mine g h1 with h2 | h2
   .exact .inr (.inl h2)
   .exact .inr (.inr h2)
 mine:=λg hg=>by
  rcases h'.mine g hg with h1 | h1
  .exact .inl (Xe h.size h1)
  .exact h.mine g h1
 shape:=h.shape.trans h.size h'.shape
 outer:=h.outer.trans h'.outer
theorem Ext.keeps {P:Program} {G:AM} {L L':Loc} {H H':Ak} {w w':World} (hok:B1 P G L H w) (h:Ext L H w L' H' w'):Gk L.I L'.I w w':=
 λb hb=>⟨h.more b hb,h.same b (hok.lt b hb) (λ⟨_,_,hl,e⟩=>hok.apart _ _ hl (e▸hb))⟩
structure Bh (L:Loc) (w:World) (L':Loc) (w':World):Prop where
 keeps:Gk L.I L'.I w w'
 nx:L.nx<=L'.nx
 μ:∀b,b<L.nx->L'.μ b=L.μ b
 size:w.heap.size<=w'.heap.size
 shape:BH w w'
theorem Bh.refl (L:Loc) (w:World):Bh L w L w:=⟨λ_ h=>⟨h,rfl⟩,Xf _,λ_ _=>rfl,Xf _,BH.refl w⟩
theorem Bh.trans {L L1 L2:Loc} {w w1 w2:World} (h:Bh L w L1 w1) (h':Bh L1 w1 L2 w2):Bh L w L2 w2:=
 ⟨λb hb=>⟨(h'.keeps b (h.keeps b hb).1).1,(h'.keeps b (h.keeps b hb).1).2.trans (h.keeps b hb).2⟩,Xe h.nx h'.nx,
  λb hb=>(h'.μ b (Xc hb h.nx)).trans (h.μ b hb),Xe h.size h'.size,h.shape.trans h.size h'.shape⟩
mutual
theorem Aq.keep {P:Program} {L L':Loc} {w w':World} (h:Bh L w L' w'):∀(p:PV) {u:Value},Aq P L w p u->Aq P L' w' p u
 | .t x,_,hr=>by simp only[Aq]at hr ⊢;exact AA.keep h.keeps x hr
 | .row b o n z,_,hr=>by
  simp only[Aq]at hr ⊢;obtain⟨hb,hm,c,e,hc,hcap⟩:=hr;refine⟨Xc hb h.nx,?_,c,?_,hc,λarr ty fz he=>?_⟩
  .rw[h.μ b hb];exact Xc hm h.size
  .rw[h.μ b hb];exact e
  .rw[h.μ b hb]at he;obtain⟨a0,f0,e0,s0⟩:=h.shape _ hm arr ty fz he;rw[<-s0];exact hcap a0 ty f0 e0
 | .ptr b o,_,hr=>by
  simp only[Aq]at hr ⊢;obtain⟨hb,e⟩:=hr;exact⟨Xc hb h.nx,by rw[h.μ b hb];exact e⟩
 | .ag cs,_,hr=>by
  simp only[Aq]at hr ⊢;obtain⟨us,e,h1,hl⟩:=hr;exact⟨us,e,h1,AJ.keep h cs hl⟩
 | .tu cs,_,hr=>by
  simp only[Aq]at hr ⊢;obtain⟨us,e,hl⟩:=hr;exact⟨us,e,AJ.keep h cs hl⟩
 | .fn f first cap,_,hr=>by
  simp only[Aq]at hr ⊢;obtain⟨us,vs,e,hl,hl'⟩:=hr;exact⟨us,vs,e,AJ.keep h first hl,AJ.keep h cap hl'⟩
 | .ic t x,_,hr=>by
  simp only[Aq]at hr ⊢;obtain⟨y,e,hy⟩:=hr;exact⟨y,e,Aq.keep h x hy⟩
 | .mp b,_,hr=>by
  simp only[Aq]at hr ⊢;obtain⟨hb,e⟩:=hr;exact⟨Xc hb h.nx,by rw[h.μ b hb];exact e⟩
 | .dead,_,_=>by simp only[Aq]
theorem AJ.keep {P:Program} {L L':Loc} {w w':World} (h:Bh L w L' w'):∀(ps:List PV) {us:List Value},AJ P L w ps us->AJ P L' w' ps us
 | [],_,hr=>by simpa only[AJ]using hr
 | c::cs,_,hr=>by
  simp only[AJ]at hr ⊢;obtain⟨x,xs,e,hx,hxs⟩:=hr;exact⟨x,xs,e,Aq.keep h c hx,AJ.keep h cs hxs⟩
end
theorem AJ.at_ {P:Program} {L:Loc} {w:World}:∀{cs:List PV} {us:List Value} (k:Nat) {c:PV},AJ P L w cs us->cs[k]?=some c->∃x,us[k]?=some x/\Aq P L w c x
 | [],us,k,c,_,hk=>by simp at hk
 | d::cs,us,0,c,h,hk=>by
  simp only[AJ]at h;obtain⟨x,xs,e,hx,_⟩:=h
  have ed:d=c:=by simpa using hk
  subst ed;exact⟨x,by simp[e],hx⟩
 | d::cs,us,k+1,c,h,hk=>by
  simp only[AJ]at h;obtain⟨x,xs,e,_,hxs⟩:=h;obtain⟨y,hy,hr⟩:=AJ.at_ k hxs (by simpa using hk);exact⟨y,by simp[e,hy],hr⟩
theorem AJ.length {P:Program} {L:Loc} {w:World}:∀{cs:List PV} {us:List Value},AJ P L w cs us->us.length=cs.length
 | [],_,hr=>by simp only[AJ]at hr;simp[hr]
 | c::cs,_,hr=>by
  simp only[AJ]at hr;obtain⟨x,xs,e,_,hxs⟩:=hr;simp[e,AJ.length hxs]
theorem AJ.mk {P:Program} {L:Loc} {w:World}:∀{cs:List PV} {us:List Value},us.length=cs.length->(∀(k:Nat) c x,cs[k]?=some c->us[k]?=some x->Aq P L w c x)->AJ P L w cs us
 | [],us,hl,_=>by simp only[AJ];exact List.eq_nil_of_length_eq_zero (by simpa using hl)
 | d::cs,[],hl,_=>by simp at hl
 | d::cs,u::us,hl,h=>by
  simp only[AJ];exact⟨u,us,rfl,h 0 d u (by simp) (by simp),AJ.mk (by simpa using hl) λk c x hc hx=>h (k+1) c x (by simpa using hc) (by simpa using hx)⟩
theorem AJ.ofT {P:Program} {L:Loc} {w:World}:∀{cs:List T} {us:List Value},AX L.I w cs us->AJ P L w (cs.map .t) us
 | [],_,hr=>by simp only[AX]at hr;simp only[Xg,AJ];exact hr
 | c::cs,_,hr=>by
  simp only[AX]at hr;obtain⟨x,xs,e,hx,hxs⟩:=hr;simp only[Xh,AJ,Aq];exact⟨x,xs,e,hx,AJ.ofT hxs⟩
theorem AJ.toT {P:Program} {L:Loc} {w:World}:∀{cs:List T} {us:List Value},AJ P L w (cs.map .t) us->AX L.I w cs us
 | [],_,hr=>by simp only[Xg,AJ]at hr;simp only[AX];exact hr
 | c::cs,_,hr=>by
  simp only[Xh,AJ,Aq]at hr;obtain⟨x,xs,e,hx,hxs⟩:=hr;simp only[AX];exact⟨x,xs,e,hx,AJ.toT hxs⟩
end Go.Abs
