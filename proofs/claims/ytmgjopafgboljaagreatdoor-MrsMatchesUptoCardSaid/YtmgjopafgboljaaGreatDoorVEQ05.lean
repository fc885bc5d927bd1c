/- Auxiliary facts. -/
import Derived.Test.YtmgjopafgboljaaGreatDoorVEQ04
import Derived.Laws.MakeOwn
set_option linter.unusedSimpArgs false
set_option linter.unusedVariables false
namespace Go.Abs
open Go
@[simp] def upd {α:Type}:List (Nat×α)->Nat->α->List (Nat×α)
 | [],_,_=>[]
 | (k,x)::r,b,y=>if k=b then(k,y)::r else(k,x)::upd r b y
@[simp] def rem {α:Type}:List (Nat×α)->Nat->List (Nat×α)
 | [],_=>[]
 | (k,x)::r,b=>if k=b then rem r b else(k,x)::rem r b
theorem A0f {α:Type} (b:Nat) (y:α) (j:Nat):∀(H:List (Nat×α)),look (upd H b y) j=if j=b then(look H b).map (fun _=>y)else look H j
 | []=>by simp[upd,look]
 | (k,x)::r=>by
  simp only[upd];by_cases hk:k=b
  ·rw[if_pos hk];simp only[look,hk];by_cases hj:b=j
   ·simp[hj]
   ·simp[hj,Ne.symm hj]
  ·rw[if_neg hk];simp only[look,A0f b y j r];by_cases hj:k=j
   ·have hb:¬j=b:=by omega
    simp[hj,hb]
   ·simp only[if_neg hj,if_neg hk]
theorem A1e {α:Type} (b j:Nat):∀(H:List (Nat×α)),look (rem H b) j=if j=b then none else look H j
 | []=>by simp[rem,look]
 | (k,x)::r=>by
  simp only[rem];by_cases hk:k=b
  ·rw[if_pos hk,A1e b j r];simp only[look];by_cases hj:j=b
   ·simp[hj]
   ·simp only[if_neg hj];rw[if_neg (by omega)]
  ·rw[if_neg hk];simp only[look,A1e b j r];by_cases hj:k=j
   ·have hb:¬j=b:=by omega
    simp[hj,hb]
   ·simp[hj]
def Loc.grow (L:Loc) (g:Nat):Loc:={ I:=L.I,μ:=fun b=>if b=L.nx then g else L.μ b,nx:=L.nx+1 }
theorem A4e.keep {P:Program} {L L':Loc} {w w':World} (h:Mono L w L' w') {g:Nat} {r:Row} (hr:A4e P L w g r) (hg:w'.heap[g]?=w.heap[g]?):A4e P L' w' g r:=by
 cases r with
 | cells ty cs=>
  obtain⟨arr,ha,hl,hc⟩:=hr;refine⟨arr,hg.trans ha,hl,fun j c hj=>?_⟩;obtain⟨x,hx,h1,hr⟩:=hc j c hj;exact⟨x,hx,h1,RepV.keep h c hr⟩
 | iter s pos=>exact hg.trans hr
 | map kk es=>obtain⟨arr,c,h1,h2⟩:=hr;exact⟨arr,c,hg.trans h1,h2⟩
 | lp l x k p=>exact⟨hr.1,hg.trans hr.2.1,RepV.keep h p hr.2.2⟩
 | blk l o=>exact⟨hr.1,hg.trans hr.2⟩
section
variable {P : Program} {G : A1c} {L : Loc} {H : Heap} {w w' : World}
theorem A2b {L':Loc} (hok:A1o P G L H w) (hm:C3h L.I L'.I w w'):∀g cs,look G g=some cs->L'.I g/\RepG L'.I w' cs g:=fun g cs hg=>
 ⟨(hm g (hok.glob g cs hg).1).1,RepG.keep hm (hok.glob g cs hg).1 (hok.glob g cs hg).2⟩
theorem A8r {o:Obj} (hok:A1o P G L H w) (hw:w'.heap=w.heap.push o):Mono L w (L.grow w.heap.size) w' where
 keeps:=fun b hb=>⟨hb,by rw[hw,Array.getElem?_push_lt (hok.lt b hb),Array.getElem?_eq_getElem (hok.lt b hb)]⟩
 nx:=Nat.le_succ _
 μ:=fun b hb=>by simp only[Loc.grow];rw[if_neg (by omega)]
 size:=by rw[hw];simp
 shape:=fun g hg arr ty fz he=>by
  rw[hw,Array.getElem?_push_lt hg,<-Array.getElem?_eq_getElem hg]at he;exact⟨arr,fz,he,rfl⟩
theorem C6k {o:Obj} {r:Row} (hok:A1o P G L H w) (hout:A3v w w') (hw:w'.heap=w.heap.push o) (hr:A4e P (L.grow w.heap.size) w' w.heap.size r) :
  A1o P G (L.grow w.heap.size) ((L.nx,r)::H) w'/\Mono L w (L.grow w.heap.size) w'/\Ext L H w (L.grow w.heap.size) ((L.nx,r)::H) w':=by
 have hm:=A8r hok hw
 have hsz:w'.heap.size=w.heap.size+1:=by rw[hw];simp
 have hold:∀g,g<w.heap.size->w'.heap[g]?=w.heap[g]?:=fun g hg=>by
  rw[hw,Array.getElem?_push_lt hg,Array.getElem?_eq_getElem hg]
 have hμn:(L.grow w.heap.size).μ L.nx=w.heap.size:=by simp[Loc.grow]
 have hμo:∀b r,look H b=some r->(L.grow w.heap.size).μ b=L.μ b:=fun b r hb=>hm.μ b (hok.nx b r hb)
 have cases':∀b r',look ((L.nx,r)::H) b=some r'->(b=L.nx/\r'=r)\/(b≠L.nx/\look H b=some r'):=by
  intro b r' hl;simp only[look]at hl;by_cases hb:L.nx=b
  ·rw[if_pos hb]at hl;exact .inl ⟨hb.symm,by simpa using hl.symm⟩
  ·rw[if_neg hb]at hl;exact .inr ⟨Ne.symm hb,hl⟩
 refine⟨⟨?_,?_,?_,?_,?_,A2b hok hm.keeps⟩,hm,⟨by omega,fun g hg _=>hold g hg,fun g hg=>hg,fun g hg=>.inl hg,?_,hm.shape,hout⟩⟩
 ·intro b hb;have:=hok.lt b hb;omega
 ·intro b r' hl;rcases cases' b r' hl with⟨rfl,rfl⟩ | ⟨_,hl'⟩
  ·rw[hμn];exact hr
  ·rw[hμo b r' hl'];exact(hok.rep b r' hl').keep hm (hold _ (hok.rep b r' hl').lt)
 ·intro b r' hl hI;rcases cases' b r' hl with⟨rfl,rfl⟩ | ⟨_,hl'⟩
  ·rw[hμn]at hI;have:=hok.lt _ hI;omega
  ·rw[hμo b r' hl']at hI;exact hok.apart b r' hl' hI
 ·intro b b' r1 r2 h1 h2 he;rcases cases' b r1 h1 with⟨rfl,rfl⟩ | ⟨hb,h1'⟩<;>rcases cases' b' r2 h2 with⟨rfl,rfl⟩ | ⟨hb',h2'⟩
  ·rfl
  ·rw[hμn,hμo b' r2 h2']at he;have:=(hok.rep b' r2 h2').lt;omega
  ·rw[hμn,hμo b r1 h1']at he;have:=(hok.rep b r1 h1').lt;omega
  ·rw[hμo b r1 h1',hμo b' r2 h2']at he;exact hok.inj b b' r1 r2 h1' h2' he
 ·intro b r' hl;rcases cases' b r' hl with⟨rfl,rfl⟩ | ⟨_,hl'⟩
  ·simp[Loc.grow]
  ·have:=hok.nx b r' hl';simp only[Loc.grow];omega
 ·rintro g ⟨b,r',hl,rfl⟩;rcases cases' b r' hl with⟨rfl,rfl⟩ | ⟨_,hl'⟩
  ·left;rw[hμn];exact Nat.le_refl _
  ·right;exact⟨b,r',hl',(hμo b r' hl').symm⟩
theorem A4u {b:Nat} {r0 r:Row} (hok:A1o P G L H w) (hout:A3v w w') (hl:look H b=some r0) (hsize:w'.heap.size=w.heap.size)
  (hother:∀g,g≠L.μ b->w'.heap[g]?=w.heap[g]?) (hshape:A1y w w') (hr:Mono L w L w'->A4e P L w' (L.μ b) r) :
  A1o P G L (upd H b r) w'/\Mono L w L w'/\Ext L H w L (upd H b r) w':=by
 have hm:Mono L w L w':=by
  refine⟨fun g hg=>⟨hg,hother g (fun e=>hok.apart b r0 hl (e▸hg))⟩,Nat.le_refl _,fun _ _=>rfl,by omega,hshape⟩
 have cases':∀k r',look (upd H b r) k=some r'->(k=b/\r'=r)\/(k≠b/\look H k=some r'):=by
  intro k r' hk;rw[A0f]at hk;by_cases e:k=b
  ·rw[if_pos e,hl]at hk;exact .inl ⟨e,by simpa using hk.symm⟩
  ·rw[if_neg e]at hk;exact .inr ⟨e,hk⟩
 have back:∀k r',look (upd H b r) k=some r'->∃r'',look H k=some r'':=by
  intro k r' hk;rcases cases' k r' hk with⟨rfl,_⟩ | ⟨_,h⟩
  ·exact⟨r0,hl⟩
  ·exact⟨r',h⟩
 refine⟨⟨?_,?_,?_,?_,?_,A2b hok hm.keeps⟩,hm,⟨by omega,?_,fun g hg=>hg,fun g hg=>.inl hg,?_,hshape,hout⟩⟩
 ·intro g hg;rw[hsize];exact hok.lt g hg
 ·intro k r' hk;rcases cases' k r' hk with⟨rfl,rfl⟩ | ⟨hne,h⟩
  ·exact hr hm
  ·exact(hok.rep k r' h).keep hm (hother _ (fun e=>hne (hok.inj k b r' r0 h hl e)))
 ·intro k r' hk;obtain⟨r'',h⟩:=back k r' hk;exact hok.apart k r'' h
 ·intro k k' r1 r2 h1 h2 he;obtain⟨r1',h1'⟩:=back k r1 h1;obtain⟨r2',h2'⟩:=back k' r2 h2;exact hok.inj k k' r1' r2' h1' h2' he
 ·intro k r' hk;obtain⟨r'',h⟩:=back k r' hk;exact hok.nx k r'' h
 ·intro g _ hmine;exact hother g (fun e=>hmine ⟨b,r0,hl,e.symm⟩)
 ·rintro g ⟨k,r',hk,rfl⟩;obtain⟨r'',h⟩:=back k r' hk;exact .inr ⟨k,r'',h,rfl⟩
theorem F1s (b:Nat) (hok:A1o P G L H w):A1o P G L (rem H b) w/\Ext L H w L (rem H b) w:=by
 have back:∀k r,look (rem H b) k=some r->look H k=some r:=by
  intro k r hk;rw[A1e]at hk;split at hk
  ·cases hk
  ·exact hk
 refine⟨⟨hok.lt,fun k r hk=>hok.rep k r (back k r hk),fun k r hk=>hok.apart k r (back k r hk),fun k k' r r' h h'=>hok.inj k k' r r' (back k r h) (back k' r' h'),fun k r hk=>hok.nx k r (back k r hk),hok.glob⟩,?_⟩;exact⟨Nat.le_refl _,fun _ _ _=>rfl,fun _ h=>h,fun _ h=>.inl h,fun g ⟨k,r,hk,e⟩=>.inr ⟨k,r,back k r hk,e⟩,A1y.refl w,A3v.refl w⟩
theorem C9q {b:Nat} {r:Row} (hok:A1o P G L H w) (hl:look H b=some r) :
  A1o P G (L.grow (L.μ b)) ((L.nx,r)::rem H b) w/\Mono L w (L.grow (L.μ b)) w/\Ext L H w (L.grow (L.μ b)) ((L.nx,r)::rem H b) w:=by
 have hm:Mono L w (L.grow (L.μ b)) w:=⟨fun g hg=>⟨hg,rfl⟩,Nat.le_succ _,fun k hk=>by simp only[Loc.grow];rw[if_neg (by omega)],Nat.le_refl _,A1y.refl w⟩
 have hμn:(L.grow (L.μ b)).μ L.nx=L.μ b:=by simp[Loc.grow]
 have hμo:∀k r',look H k=some r'->(L.grow (L.μ b)).μ k=L.μ k:=fun k r' hk=>hm.μ k (hok.nx k r' hk)
 have cases':∀k r',look ((L.nx,r)::rem H b) k=some r'->(k=L.nx/\r'=r)\/(k≠L.nx/\k≠b/\look H k=some r'):=by
  intro k r' hk;simp only[look]at hk;by_cases hb:L.nx=k
  ·rw[if_pos hb]at hk;exact .inl ⟨hb.symm,by simpa using hk.symm⟩
  ·rw[if_neg hb,A1e]at hk;split at hk
   ·cases hk
   ·rename_i hne;exact .inr ⟨Ne.symm hb,hne,hk⟩
 refine⟨⟨hok.lt,?_,?_,?_,?_,A2b hok hm.keeps⟩,hm,⟨Nat.le_refl _,fun _ _ _=>rfl,fun _ h=>h,fun _ h=>.inl h,?_,A1y.refl w,A3v.refl w⟩⟩
 ·intro k r' hk;rcases cases' k r' hk with⟨rfl,rfl⟩ | ⟨_,_,h⟩
  ·rw[hμn];exact(hok.rep b r' hl).keep hm rfl
  ·rw[hμo k r' h];exact(hok.rep k r' h).keep hm rfl
 ·intro k r' hk hI;rcases cases' k r' hk with⟨rfl,rfl⟩ | ⟨_,_,h⟩
  ·rw[hμn]at hI;exact hok.apart b r' hl hI
  ·rw[hμo k r' h]at hI;exact hok.apart k r' h hI
 ·intro k k' r1 r2 h1 h2 he;rcases cases' k r1 h1 with⟨rfl,rfl⟩ | ⟨hb,hb2,h1'⟩<;>rcases cases' k' r2 h2 with⟨rfl,rfl⟩ | ⟨hb',hb2',h2'⟩
  ·rfl
  ·rw[hμn,hμo k' r2 h2']at he;exact absurd (hok.inj b k' _ _ hl h2' he).symm hb2'
  ·rw[hμn,hμo k r1 h1']at he;exact absurd (hok.inj k b _ _ h1' hl he) hb2
  ·rw[hμo k r1 h1',hμo k' r2 h2']at he;exact hok.inj k k' r1 r2 h1' h2' he
 ·intro k r' hk;rcases cases' k r' hk with⟨rfl,rfl⟩ | ⟨_,_,h⟩
  ·simp[Loc.grow]
  ·have:=hok.nx k r' h;simp only[Loc.grow];omega
 ·rintro g ⟨k,r',hk,rfl⟩;rcases cases' k r' hk with⟨rfl,rfl⟩ | ⟨_,_,h⟩
  ·right;rw[hμn];exact⟨b,r',hl,rfl⟩
  ·right;exact⟨k,r',h,(hμo k r' h).symm⟩
theorem A1o.of_heap (hok:A1o P G L H w) (hout:A3v w w') (hw:w'.heap=w.heap):A1o P G L H w'/\Mono L w L w'/\Ext L H w L H w':=by
 have hm:Mono L w L w':=⟨fun g hg=>⟨hg,by rw[hw]⟩,Nat.le_refl _,fun _ _=>rfl,by rw[hw];exact Nat.le_refl _,fun g _ arr ty fz he=>⟨arr,fz,by rw[<-hw];exact he,rfl⟩⟩
 refine⟨⟨fun b hb=>by rw[hw];exact hok.lt b hb,fun b r hb=>(hok.rep b r hb).keep hm (by rw[hw]),hok.apart,hok.inj,hok.nx,A2b hok hm.keeps⟩,hm,?_⟩;exact⟨by rw[hw];exact Nat.le_refl _,fun g _ _=>by rw[hw],fun _ h=>h,fun _ h=>.inl h,fun _ h=>.inr h,hm.shape,hout⟩
end
def A1g:PV->Option (List PV)
 | .t (.ag cs)=>some (cs.map .t)
 | .ag cs=>some cs
 | .t (.tu _)=>none
 | .tu _=>none
 | .dead=>none
 | .t (.v x)=>if x.oneCell' then some [.t (.v x)]else none
 | p=>some [p]
theorem B6n {P:Program} {L:Loc} {w:World} {p:PV} {ps:List PV} {v:Value} (h:A1g p=some ps) (hr:RepV P L w p v) :
  A0y P L w ps v.cells.toList/\∀x∈v.cells.toList,x.oneCell'=true:=by
 have one:∀p:PV,RepV P L w p v->v.oneCell'=true->A0y P L w [p] v.cells.toList/\∀x∈v.cells.toList,x.oneCell'=true:=by
  intro p hp h1
  have e:v.cells.toList=[v]:=by cases v<;>first | rfl | simp[Value.oneCell']at h1
  rw[e];exact⟨by simp only[A0y];exact⟨v,[],rfl,hp,rfl⟩,by simpa using h1⟩
 cases p with
 | t x=>
  cases x with
  | v x=>
   simp only[A1g]at h;split at h
   ·rename_i h1;injection h with h;subst h;have hr':=hr;simp only[RepV,RepT]at hr';subst hr';exact one _ hr h1
   ·cases h
  | sl n cs=>simp only[A1g,Option.some.injEq]at h;subst h;refine one _ hr ?_;simp only[RepV,RepT]at hr;obtain⟨a,c,rfl,_⟩:=hr;rfl
  | ag cs=>
   simp only[A1g,Option.some.injEq]at h;subst h;simp only[RepV,RepT]at hr;obtain⟨us,rfl,h1,hl⟩:=hr;exact⟨A0y.ofT hl,h1⟩
  | tu cs=>simp only[A1g]at h;cases h
  | pt cs=>simp only[A1g,Option.some.injEq]at h;subst h;refine one _ hr ?_;simp only[RepV,RepT]at hr;obtain⟨b,o,rfl,_⟩:=hr;rfl
  | ic t x=>simp only[A1g,Option.some.injEq]at h;subst h;refine one _ hr ?_;simp only[RepV,RepT]at hr;obtain⟨y,rfl,_⟩:=hr;rfl
 | row b o n z=>simp only[A1g,Option.some.injEq]at h;subst h;refine one _ hr ?_;simp only[RepV]at hr;obtain⟨_,_,c,rfl,_⟩:=hr;rfl
 | ptr b o=>simp only[A1g,Option.some.injEq]at h;subst h;refine one _ hr ?_;simp only[RepV]at hr;obtain⟨_,rfl⟩:=hr;rfl
 | ag cs=>
  simp only[A1g,Option.some.injEq]at h;subst h;simp only[RepV]at hr;obtain⟨us,rfl,h1,hl⟩:=hr;exact⟨hl,h1⟩
 | tu cs=>simp only[A1g]at h;cases h
 | fn f a b=>simp only[A1g,Option.some.injEq]at h;subst h;refine one _ hr ?_;simp only[RepV]at hr;obtain⟨us,vs,rfl,_⟩:=hr;rfl
 | ic t x=>simp only[A1g,Option.some.injEq]at h;subst h;refine one _ hr ?_;simp only[RepV]at hr;obtain⟨y,rfl,_⟩:=hr;rfl
 | mp b=>simp only[A1g,Option.some.injEq]at h;subst h;refine one _ hr ?_;simp only[RepV]at hr;obtain⟨_,rfl⟩:=hr;rfl
 | dead=>simp only[A1g]at h;cases h
def A2m {α:Type} (cs:List α) (o:Nat) (ps:List α):List α:=
 match ps with
 | [p]=>cs.set o p
 | _=>cs.take o++ps++cs.drop (o+ps.length)
theorem B4s {α:Type} {cs:List α} {o:Nat} {ps:List α} (h:o+ps.length<=cs.length):A2m cs o ps=cs.take o++ps++cs.drop (o+ps.length):=by
 unfold A2m;split
 ·rename_i p;simp only[List.length_cons,List.length_nil,Nat.zero_add]at h ⊢;rw[List.set_eq_take_append_cons_drop,if_pos (by omega)];simp
 ·rfl
theorem A5a {α:Type} {cs:List α} {o:Nat} {ps:List α} (h:o+ps.length<=cs.length):(A2m cs o ps).length=cs.length:=by
 rw[B4s h];simp;omega
theorem B2b {P:Program} {L:Loc} {w:World} {cs ps:List PV} {arr:Array Value} {vs:List Value} {o:Nat} (hl:cs.length<=arr.size) (hfit:o+ps.length<=cs.length)
  (hc:∀(j:Nat) c,cs[j]?=some c->∃x,arr[j]?=some x/\x.oneCell'=true/\RepV P L w c x) (hp:A0y P L w ps vs) (h1:∀x∈vs,x.oneCell'=true) (j:Nat) (c:PV)
  (hj:(A2m cs o ps)[j]?=some c):∃x,(arr.toList.take o++vs++arr.toList.drop (o+vs.length)).toArray[j]?=some x/\x.oneCell'=true/\RepV P L w c x:=by
 have hlen:=hp.length;rw[B4s hfit]at hj;simp only[List.getElem?_toArray]
 have hto:(arr.toList.take o).length=o:=by simp;omega
 have hco:(cs.take o).length=o:=by simp;omega
 by_cases h:j<o
 ·rw[List.append_assoc,List.getElem?_append_left (by omega),List.getElem?_take,if_pos h]at hj ⊢;obtain⟨x,hx,r⟩:=hc j c hj;exact⟨x,by simpa using hx,r⟩
 ·by_cases h2:j<o+ps.length
  ·rw[List.append_assoc,List.getElem?_append_right (by omega),List.getElem?_append_left (by omega)]at hj ⊢;rw[hco]at hj;rw[hto];obtain⟨x,hx,r⟩:=hp.at_ _ hj;exact⟨x,hx,h1 x (List.mem_of_getElem? hx),r⟩
  ·rw[List.append_assoc,List.getElem?_append_right (by omega),List.getElem?_append_right (by omega),List.getElem?_drop]at hj ⊢;rw[hco]at hj;rw[hto]
   have e1:o+ps.length+(j-o-ps.length)=j:=by omega
   have e2:o+vs.length+(j-o-vs.length)=j:=by omega
   rw[e1]at hj;rw[e2];obtain⟨x,hx,r⟩:=hc j c hj;exact⟨x,by simpa using hx,r⟩
def C4d (P:Program) (H:Heap) (t:TypeId) (p x:PV):Option Heap:=
 match A4g P t,p,A1g x with
 | some (_,n),.ptr b o,some ps=>match look H b with
  | some (.cells ty cs)=>if ps.length=n/\o+ps.length<=cs.length then some (upd H b (.cells ty (A2m cs o ps)))else none
  | _=>none
 | _,_,_=>none
section
variable {P : Program} {G : A1c} {B : Nat} {s : A0c} {o : Oper}
theorem A7b {w:World} {g:Nat} {arr arr':Array Value} {ty:TypeId} (hg:w.heap[g]?=some (.cells arr ty (0,0))) (hs:arr'.size=arr.size):A1y w (w.setRow g arr'):=by
 intro k hk a t f he;by_cases e:k=g
 ·subst e;rw[setRow_heap w k arr arr' ty (0,0) hg]at he;injection he with he;injection he with h1 h2 h3;subst h1;subst h2;exact⟨arr,(0,0),hg,hs.symm⟩
 ·rw[setRow_other w g k arr' e]at he;exact⟨a,f,he,rfl⟩
theorem E5d {t:TypeId} {x y:Operand} {H':Heap} (ho:o.op = .store t x y) (h:C4d P s.H t (s.ev G x) (s.ev G y)=some H'):AOp P G B o s (.t (.v undef)) H' s.nx:=fun L a w hi=>by
 unfold C4d at h;split at h
 ·rename_i b n p off ps hsh hp hcs;split at h
  ·rename_i ty cs hl;split at h
   ·rename_i hfit;obtain⟨hn,hfit⟩:=hfit;injection h with h;subst h;have hx:=hi.ev x;have hy:=hi.ev y;rw[hp]at hx;simp only[RepV]at hx;obtain⟨hb,hx⟩:=hx;obtain⟨hrep,h1⟩:=B6n hcs hy;obtain⟨arr,harr,hle,hc⟩:=hi.heap.rep p _ hl;have hsz:=(A2l hsh w).2;have hvl:=hrep.length;have hstore:=run_storeCells_at P (L.μ p) off ty (a.eval y).cells.toList 0 arr w harr (by omega) h1;simp only[Nat.add_zero]at hstore
    have hsize:(a.eval y).cells.size=n:=by rw[<-Array.length_toList,hvl,hn]
    unfold Oper.wp
    have hrun:(execOp a.eval o).run P w = .ok .skip (w.setRow (L.μ p) (arr.toList.take off++(a.eval y).cells.toList++arr.toList.drop (off+(a.eval y).cells.toList.length)).toArray):=by
     simp[execOp,ho,hx,Instr.storeAt,Instr.sureAddr,storeVar,hsz,hsize,hstore]
    rw[hrun,Oper.upon_skip]
    have hw:=A4u (w':=w.setRow (L.μ p) (arr.toList.take off++(a.eval y).cells.toList++arr.toList.drop (off+(a.eval y).cells.toList.length)).toArray) (r:=.cells ty (A2m cs off ps)) hi.heap ⟨rfl,rfl,rfl⟩ hl (by simp)
     (fun g hg=>setRow_other w _ g _ hg) (A7b harr (by simp;omega))
     (fun hm=>⟨_,setRow_heap w _ arr _ ty _ harr,by rw[A5a hfit];simp;omega,fun j c hj=>by
      obtain⟨z,hz,h1z,hr⟩:=B2b hle hfit hc hrep h1 j c hj
      exact⟨z,hz,h1z,RepV.keep hm c hr⟩⟩)
    exact⟨undef,L,rfl,by simp only[RepV,RepT],hw.1,hi.nx,hw.2.1,hw.2.2⟩
   ·cases h
  ·cases h
 ·cases h
def A3e (P:Program) (t:TypeId):Option (TypeId×Nat×Nat×List Value):=
 match P.underlying t with
 | some (.slice e)=>match P.info? e with
  | some i=>match i.zero with
   | some z=>if z.cells.size=i.size/\0<i.size/\z.cells.toList.all (·.oneCell')then some (e,i.size,i.bytes,z.cells.toList)else none
   | none=>none
  | none=>none
 | _=>none
theorem A5b {t e:TypeId} {n by':Nat} {zc:List Value} (h:A3e P t=some (e,n,by',zc)) :
  ∃i z,P.underlying t=some (.slice e)/\P.info? e=some i/\i.zero=some z/\i.size=n/\i.bytes=by'/\z.cells.toList=zc/\zc.length=n/\0<n/\∀x∈zc,x.oneCell'=true:=by
 unfold A3e at h;split at h
 ·rename_i e' hu;split at h
  ·rename_i i hi;split at h
   ·rename_i z hz;split at h
    ·rename_i hc;injection h with h;injection h with h1 h2;injection h2 with h2 h3;injection h3 with h3 h4;subst h1;subst h2;subst h3;subst h4;exact⟨i,z,hu,hi,hz,rfl,rfl,rfl,by simpa using hc.1,hc.2.1,List.all_eq_true.1 hc.2.2⟩
    ·cases h
   ·cases h
  ·cases h
 ·cases h
def C3k (zc:List Value) (n:Nat):List PV:=
 match zc with
 | [z]=>List.replicate n (.t (.v z))
 | _=>(List.range (n*zc.length)).map fun i=>.t (.v (zc.getD (i%zc.length) undef))
theorem A8a (zc:List Value) (n:Nat):(C3k zc n).length=n*zc.length:=by
 unfold C3k;split<;>simp
theorem D7g {zc:List Value} {n j:Nat} {c:PV} (h:(C3k zc n)[j]?=some c):j<n*zc.length/\c = .t (.v (zc.getD (j%zc.length) undef)):=by
 have hl:j<n*zc.length:=by rw[<-A8a];exact(List.getElem?_eq_some_iff.1 h).1
 refine⟨hl,?_⟩;unfold C3k at h;split at h
 ·rename_i z;simp only[List.getElem?_replicate]at h;split at h
  ·injection h with h;subst h;simp[Nat.mod_one]
  ·cases h
 ·simp only[List.getElem?_map]at h;rw[List.getElem?_range hl]at h;simpa using h.symm
theorem B4a {r:PV} {row:Row} (h:∀L a w,Interp P G B L s a w->∃v w' ob,(execOp a.eval o).run P w = .ok (.value v) w'/\A3v w w'/\w'.heap=w.heap.push ob /\
  (Mono L w (L.grow w.heap.size) w'->A4e P (L.grow w.heap.size) w' w.heap.size row/\RepV P (L.grow w.heap.size) w' r v)):AOp P G B o s r ((s.nx,row)::s.H) (s.nx+1):=fun L a w hi=>by
 obtain⟨v,w',ob,hrun,hout,hw,hrest⟩:=h L a w hi;have hm:=A8r hi.heap hw;obtain⟨hrow,hr⟩:=hrest hm;have hn:=C6k hi.heap hout hw hrow;unfold Oper.wp;rw[hrun,Oper.upon_value];rw[<-hi.nx];exact⟨v,_,rfl,hr,hn.1,rfl,hn.2.1,hn.2.2⟩
def E1w (P:Program) (t:TypeId) (l c:PV) (nx:Nat):Option (PV×Row):=
 match l,c,A3e P t with
 | .t (.v (.int _ l)),.t (.v (.int _ c)),some (e,n,by',zc)=>
  if 0<=l/\l<=c/\c<=9223372036854775807/\(by':Int)*c<=281474976710656 then some (.row nx 0 l.toNat n,.cells e (C3k zc l.toNat))else none
 | _,_,_=>none
theorem F1t {t:TypeId} {x y:Operand} {r:PV} {row:Row} (ho:o.op = .makeSlice t x y) (h:E1w P t (s.ev G x) (s.ev G y) s.nx=some (r,row)):AOp P G B o s r ((s.nx,row)::s.H) (s.nx+1):=by
 refine B4a fun L a w hi=>?_;unfold E1w at h;split at h
 ·rename_i k1 l k2 c e n by' zc hx hy he
  split at h
  ·rename_i hb;obtain⟨h0,hlc,h63,hbytes⟩:=hb;injection h with h;injection h with h1 h2;subst h1;subst h2;obtain⟨i,z,hu,hi',hz,rfl,rfl,rfl,hzl,hpos,hone⟩:=A5b he;have ex:=hi.ev x;have ey:=hi.ev y;rw[hx]at ex;rw[hy]at ey;simp only[RepV,RepT]at ex ey;have hrun:=run_make (P:=P) w t e i z hu hi' hz k1 k2 l c h0 hlc hbytes h63;refine⟨_,_,_,by simp only[execOp,ho,ex,ey,Sem.run_bind,hrun,Result.andThen_ok];rfl,(show A3v w (w.alloc _)from⟨rfl,rfl,rfl⟩),rfl,fun hm=>?_⟩
   have hzs:z.cells.size=i.size:=by simpa using hzl
   have hle:l.toNat*i.size<=c.toNat*i.size:=Nat.mul_le_mul_right _ (by omega);refine⟨⟨madeCells z.cells (c.toNat*i.size),heap_alloc_new w _,by rw[A8a,size_madeCells,hzl];exact hle,fun j q hq=>?_⟩,?_⟩
   ·obtain⟨hj,rfl⟩:=D7g hq;rw[hzl]at hj
    have hjm:j%i.size<z.cells.size:=by rw[hzs];exact Nat.mod_lt _ hpos
    refine⟨z.cells[j%i.size],?_,hone _ (by simp),?_⟩
    ·unfold madeCells;simp only[Array.getElem?_map];rw[Array.getElem?_range,if_pos (by omega)];simp only[Option.map_some,hzs,Option.some.injEq];exact getElem!_pos z.cells _ hjm
    ·simp only[RepV,RepT,hzl];rw[List.getD_eq_getElem?_getD];simp[hjm]
   ·simp only[RepV];refine⟨by simp[Loc.grow,hi.nx],by simp[Loc.grow,hi.nx],c.toNat,by simp[Loc.grow,hi.nx],by omega,fun arr ty fz hh=>?_⟩
    have e1:(L.grow w.heap.size).μ s.nx=w.heap.size:=by simp[Loc.grow,hi.nx]
    rw[e1,heap_alloc_new]at hh;injection hh with hh;injection hh with h1 h2;rw[<-h1,size_madeCells];omega
  ·cases h
 ·cases h
theorem E5e {L:Loc} {w w':World} {v:Value} {ps:List PV} {ty:TypeId} (hw:w'.heap=w.heap.push (.cells v.cells ty (0,0))) (hm:Mono L w (L.grow w.heap.size) w')
  (hrep:A0y P L w ps v.cells.toList) (h1:∀x∈v.cells.toList,x.oneCell'=true):A4e P (L.grow w.heap.size) w' w.heap.size (.cells ty ps):=by
 refine⟨v.cells,by rw[hw];simp,by rw[<-hrep.length];simp,fun j c hj=>?_⟩;obtain⟨x,hx,hr⟩:=hrep.at_ j hj;exact⟨x,by simpa using hx,h1 x (List.mem_of_getElem? hx),RepV.keep hm c hr⟩
theorem F5z {t:TypeId} {x:Operand} {ps:List PV} (ho:o.op = .box t x) (h:A1g (s.ev G x)=some ps):AOp P G B o s (.ptr s.nx 0) ((s.nx,.cells t ps)::s.H) (s.nx+1):=by
 refine B4a fun L a w hi=>?_;obtain⟨hrep,h1⟩:=B6n h (hi.ev x);refine⟨.pointer (some ⟨w.heap.size,0,none⟩),w.alloc (.cells (a.eval x).cells t),_,by simp[execOp,ho,Instr.box,newVar,newRow],⟨rfl,rfl,rfl⟩,rfl,fun hm=>⟨E5e rfl hm hrep h1,?_⟩⟩;simp only[RepV];exact⟨by simp[Loc.grow,hi.nx],by simp[Loc.grow,hi.nx]⟩
def A2n (P:Program) (t:TypeId):Option (List Value):=
 match P.info? t with
 | some i=>match i.zero with
  | some z=>if z.cells.toList.all (·.oneCell')then some z.cells.toList else none
  | none=>none
 | none=>none
theorem B0g {t:TypeId} {zc:List Value} (h:A2n P t=some zc) (w:World):∃z,(zeroValue t).run P w = .ok z w/\z.cells.toList=zc/\∀x∈zc,x.oneCell'=true:=by
 unfold A2n at h;split at h
 ·rename_i i hi;split at h
  ·rename_i z hz;split at h
   ·rename_i h1;injection h with h;subst h;exact⟨z,by simp[zeroValue,typeInfo,hi,hz],rfl,List.all_eq_true.1 h1⟩
   ·cases h
  ·cases h
 ·cases h
theorem C4e (P:Program) (L:Loc) (w:World) (us:List Value):A0y P L w (us.map fun x=>.t (.v x)) us:=by
 have:=A0y.ofT (P:=P) (L:=L) (C0b L.I w us);rw[List.map_map]at this;exact this
theorem E5f {t:TypeId} {zc:List Value} (ho:o.op = .alloc t) (h:A2n P t=some zc):AOp P G B o s (.ptr s.nx 0) ((s.nx,.cells t (zc.map fun x=>.t (.v x)))::s.H) (s.nx+1):=by
 refine B4a fun L a w hi=>?_;obtain⟨z,hz,rfl,h1⟩:=B0g h w;refine⟨.pointer (some ⟨w.heap.size,0,none⟩),w.alloc (.cells z.cells t),_,by simp[execOp,ho,Instr.alloc,newVar,newRow,hz],⟨rfl,rfl,rfl⟩,rfl,fun hm=>⟨E5e rfl hm (C4e P L w _) h1,?_⟩⟩;simp only[RepV];exact⟨by simp[Loc.grow,hi.nx],by simp[Loc.grow,hi.nx]⟩
def B0w (place:Nat->Option (Nat×Nat)) (cs:List PV):List (Nat×PV)->Option (List PV)
 | []=>some cs
 | (i,p)::rest=>match place i,A1g p with
  | some (off,size),some ps=>if ps.length=size/\off+ps.length<=cs.length then B0w place (A2m cs off ps) rest else none
  | _,_=>none
theorem C9r (off:Nat):∀(l:List Value) (k:Nat) (cells:Array Value),off+k+l.length<=cells.size ->
  ((l.zipIdx k).foldl (fun(cs:Array Value) (p:Value×Nat)=>cs.setIfInBounds (off+p.2) p.1) cells).toList=cells.toList.take (off+k)++l++cells.toList.drop (off+k+l.length)
 | [],k,cells,_=>by simp
 | v::l,k,cells,h=>by
  simp only[List.length_cons]at h;simp only[List.zipIdx_cons,List.foldl_cons];rw[C9r off l (k+1) (cells.setIfInBounds (off+k) v) (by simp;omega)];rw[Array.toList_setIfInBounds];have:=list_seg_step cells.toList (off+k) v l (by simp;omega);rw[show off+(k+1)=off+k+1 by omega,this];simp[Nat.add_assoc,Nat.add_comm 1]
theorem C0e {P:Program} {L:Loc} {w:World} {place:Nat->Option (Nat×Nat)}:∀(parts:List (Nat×PV)) (vals:List (Nat×Value)) (cs out:List PV) (arr:Array Value),
  vals.map Prod.fst=parts.map Prod.fst->(∀(j:Nat) p v,parts[j]?=some p->vals[j]?=some v->RepV P L w p.2 v.2)->A0y P L w cs arr.toList->(∀x∈arr.toList,x.oneCell'=true)->B0w place cs parts=some out ->
  ∃arr',Instr.fill place arr vals=some arr'/\A0y P L w out arr'.toList/\(∀x∈arr'.toList,x.oneCell'=true)
 | [],vals,cs,out,arr,he,_,hr,h1,h=>by
  have:vals=[]:=by simpa using he
  subst this;simp only[B0w,Option.some.injEq]at h;subst h;exact⟨arr,rfl,hr,h1⟩
 | (i,p)::rest,[],cs,out,arr,he,_,hr,h1,h=>by simp at he
 | (i,p)::rest,(i',v)::vals,cs,out,arr,he,hp,hr,h1,h=>by
  simp only[List.map_cons,List.cons.injEq]at he;obtain⟨rfl,he⟩:=he;simp only[B0w]at h;split at h
  ·rename_i off size ps hpl hps;split at h
   ·rename_i hfit;obtain⟨hs,hfit⟩:=hfit;obtain⟨hrep,h1v⟩:=B6n hps (hp 0 (i',p) (i',v) (by simp) (by simp));have hvl:=hrep.length;simp only[Array.length_toList]at hvl;have hal:=hr.length;simp only[Array.length_toList]at hal;simp only[Instr.fill,hpl]
    have hcond:(v.cells.size≠size||off+v.cells.size>arr.size)=false:=by
     simp only[hvl,hs,ne_eq,not_true_eq_false,decide_false,Bool.false_or,decide_eq_false_iff_not];omega
    rw[hcond];simp only[Bool.false_eq_true,if_false];have hfold:=C9r off v.cells.toList 0 arr (by simp only[Array.length_toList];omega)
    have hfe:(v.cells.zipIdx.foldl (fun(cs:Array Value) (x:Value×Nat)=>cs.setIfInBounds (off+x.2) x.1) arr).toList=arr.toList.take off++v.cells.toList++arr.toList.drop (off+v.cells.toList.length):=by
     simp only[Nat.add_zero]at hfold;rw[<-hfold,<-Array.foldl_toList];simp
    refine C0e rest vals (A2m cs off ps) out _ he (fun j q u hq hu=>hp (j+1) q u (by simpa using hq) (by simpa using hu)) ?_ ?_ h
    ·rw[hfe];refine A0y.mk ?_ fun k c x hk hx=>?_
     ·rw[A5a hfit];simp;omega
     ·obtain⟨y,hy,_,hry⟩:=B2b (arr:=arr) (by omega) hfit (fun j c hj=>by
       obtain⟨x,hx,hr'⟩:=hr.at_ j hj
       exact⟨x,by simpa using hx,h1 x (List.mem_of_getElem? hx),hr'⟩) hrep h1v k c hk
      simp only[List.getElem?_toArray]at hy;rw[hy]at hx;injection hx with hx;subst hx;exact hry
    ·rw[hfe];intro x hx;simp only[List.mem_append]at hx;rcases hx with(hx | hx) | hx
     ·exact h1 x (List.mem_of_mem_take hx)
     ·exact h1v x hx
     ·exact h1 x (List.mem_of_mem_drop hx)
   ·cases h
  ·cases h
def A3f (P:Program) (t:TypeId) (len:Nat) (parts:List (Nat×PV)) (nx:Nat):Option (PV×Row):=
 match A3e P t with
 | some (e,n,_,zc)=>if len*n<=16777216 then(B0w (fun i=>some (i*n,n)) (C3k zc len) parts).map fun cs=>(.row nx 0 len n,.cells e cs)else none
 | none=>none
theorem E5g {L:Loc} {w:World} {z:Value} {n:Nat} {size:Nat} (hz:z.cells.size=size) (h1:∀x∈z.cells.toList,x.oneCell'=true) :
  A0y P L w (C3k z.cells.toList n) (((Array.range (n*size)).map (z.cells[· % z.cells.size]!)).toList)/\∀x∈(((Array.range (n*size)).map (z.cells[· % z.cells.size]!)).toList),n*size=0\/0<size->x.oneCell'=true:=by
 have hat:∀(j:Nat) x,(((Array.range (n*size)).map (z.cells[· % z.cells.size]!)).toList)[j]?=some x->j<n*size/\x=z.cells[j%z.cells.size]!:=by
  intro j x hx;simp only[Array.toList_map,Array.toList_range,List.getElem?_map]at hx
  cases hr:(List.range (n*size))[j]? with
  | none=>rw[hr]at hx;cases hx
  | some k=>
   rw[hr]at hx;have hjl:=(List.getElem?_eq_some_iff.1 hr).1;simp only[List.length_range]at hjl;rw[List.getElem?_range hjl]at hr;injection hr with hr;subst hr;exact⟨hjl,by simpa using hx.symm⟩
 refine⟨A0y.mk (by rw[A8a];simp[hz]) fun k c x hk hx=>?_,fun x hx hpos=>?_⟩
 ·obtain⟨hkl,rfl⟩:=D7g hk;obtain⟨hj,rfl⟩:=hat k x hx;simp only[RepV,RepT];simp only[Array.length_toList]at hkl
  have hp:0<z.cells.size:=by
   rcases Nat.eq_zero_or_pos z.cells.size with h0 | h0
   ·rw[h0]at hkl;simp at hkl
   ·exact h0
  have hm:k%z.cells.size<z.cells.size:=Nat.mod_lt _ hp;rw[getElem!_pos z.cells _ hm,List.getD_eq_getElem?_getD];simp[hm]
 ·obtain⟨j,hj⟩:=List.getElem?_of_mem hx;obtain⟨hjl,rfl⟩:=hat j x hj
  have hp:0<z.cells.size:=by
   rcases hpos with h | h
   ·omega
   ·omega
  have hm:j%z.cells.size<z.cells.size:=Nat.mod_lt _ hp;rw[getElem!_pos z.cells _ hm];exact h1 _ (by simp)
theorem C9s {L:Loc} {a:Act} {w:World} (hi:Interp P G B L s a w) (parts:List (Nat×Operand)) :
  ((parts.map fun p=>(p.1,a.eval p.2)).map Prod.fst=(parts.map fun p=>(p.1,s.ev G p.2)).map Prod.fst) /\
  (∀(j:Nat) p v,(parts.map fun p=>(p.1,s.ev G p.2))[j]?=some p->(parts.map fun p=>(p.1,a.eval p.2))[j]?=some v->RepV P L w p.2 v.2):=by
 refine⟨by simp,fun j p v hp hv=>?_⟩;simp only[List.getElem?_map]at hp hv
 cases hq:parts[j]? with
 | none=>rw[hq]at hp;cases hp
 | some q=>
  rw[hq]at hp hv;injection hp with hp;injection hv with hv;subst hp;subst hv;exact hi.ev q.2
theorem B3h {t:TypeId} {len:Nat} {parts:Array (Nat×Operand)} {r:PV} {row:Row} (ho:o.op = .buildSlice t len parts)
  (h:A3f P t len (parts.toList.map fun p=>(p.1,s.ev G p.2)) s.nx=some (r,row)) (L:Loc) (a:Act) (w:World) (hi:Interp P G B L s a w) :
  ∃v w' ob,(execOp a.eval o).run P w = .ok (.value v) w'/\A3v w w'/\w'.heap=w.heap.push ob /\
  (Mono L w (L.grow w.heap.size) w'->A4e P (L.grow w.heap.size) w' w.heap.size row/\RepV P (L.grow w.heap.size) w' r v):=by
 unfold A3f at h;split at h
 ·rename_i e n by' zc he
  split at h
  ·rename_i hsz;obtain⟨i,z,hu,hi',hz,rfl,rfl,rfl,hzl,hpos,hone⟩:=A5b he
   cases hf:B0w (fun k=>some (k*i.size,i.size)) (C3k z.cells.toList len) (parts.toList.map fun p=>(p.1,s.ev G p.2))with
   | none=>rw[hf]at h;cases h
   | some cs=>
    rw[hf]at h;injection h with h;injection h with h1 h2;subst h1;subst h2
    have hzs:z.cells.size=i.size:=by simpa using hzl
    obtain⟨hp1,hp2⟩:=C9s hi parts.toList;obtain⟨hz1,hz2⟩:=E5g (P:=P) (L:=L) (w:=w) (n:=len) hzs hone;obtain⟨arr',hfill,hrep,h1'⟩:=C0e _ _ _ _ _ hp1 hp2 hz1 (fun x hx=>hz2 x hx (.inr hpos)) hf
    have hzero:(zeroValue e).run P w = .ok z w:=by simp[zeroValue,typeInfo,hi',hz]
    have hrun:(Instr.buildSlice t len (parts.map fun(k,x)=>(k,a.eval x))).run P w = .ok (.slice (some ⟨w.heap.size,0,none⟩) len len) (w.alloc (.cells arr' e)):=by
     have hpl:(parts.map fun(k,x)=>(k,a.eval x)).toList=parts.toList.map fun p=>(p.1,a.eval p.2):=by simp
     simp only[Instr.buildSlice,Sem.run_bind,run_underlying hu,Result.andThen_ok,sizeOf,typeInfo,run_program,hi',Sem.run_pure];rw[if_neg (by omega)];by_cases h0:len*i.size=0
     ·have hl0:len=0:=by
       rcases Nat.mul_eq_zero.1 h0 with h | h
       ·exact h
       ·omega
      subst hl0;simp only[Nat.zero_mul,if_true,Sem.run_pure,Sem.run_bind,Result.andThen_ok,hpl]
      have:(Array.range 0).map (z.cells[· % z.cells.size]!)=(Array.range 0).map ((#[]:Array Value)[· % (#[]:Array Value).size]!):=by simp
      simp only[Nat.zero_mul]at hfill;rw[this]at hfill;rw[hfill];simp[newRow]
     ·simp only[if_neg h0,Sem.run_bind,hzero,Result.andThen_ok,Sem.run_pure,hpl,hfill];simp[newRow]
    refine⟨_,_,_,by simp only[execOp,ho,Sem.run_bind,hrun,Result.andThen_ok];rfl,(show A3v w (w.alloc _)from⟨rfl,rfl,rfl⟩),rfl,fun hm=>?_⟩;have hlen:=hrep.length;simp only[Array.length_toList]at hlen;refine⟨⟨arr',heap_alloc_new w _,by omega,fun j c hj=>?_⟩,?_⟩
    ·obtain⟨x,hx,hr⟩:=hrep.at_ j hj;exact⟨x,by simpa using hx,h1' x (List.mem_of_getElem? hx),RepV.keep hm c hr⟩
    ·simp only[RepV];refine⟨by simp[Loc.grow,hi.nx],by simp[Loc.grow,hi.nx],len,by simp[Loc.grow,hi.nx],by omega,fun arr ty fz hh=>?_⟩
     have e1:(L.grow w.heap.size).μ s.nx=w.heap.size:=by simp[Loc.grow,hi.nx]
     rw[e1,heap_alloc_new]at hh;injection hh with hh;injection hh with hh1 hh2;rw[<-hh1,hlen]
     have hfl:∀(parts:List (Nat×PV)) (cs out:List PV),B0w (fun k=>some (k*i.size,i.size)) cs parts=some out->out.length=cs.length:=by
      intro parts
      induction parts with
      | nil=>intro cs out h;simp only[B0w,Option.some.injEq]at h;rw[h]
      | cons p rest ih=>
       intro cs out h;obtain⟨k,p⟩:=p;simp only[B0w]at h;split at h
       ·split at h
        ·rename_i hfit;rw[ih _ _ h,A5a hfit.2]
        ·cases h
       ·cases h
     rw[hfl _ _ _ hf,A8a,hzl];omega
  ·cases h
 ·cases h
theorem C3l {t:TypeId} {len:Nat} {parts:Array (Nat×Operand)} {r:PV} {row:Row} (ho:o.op = .buildSlice t len parts)
  (h:A3f P t len (parts.toList.map fun p=>(p.1,s.ev G p.2)) s.nx=some (r,row)):AOp P G B o s r ((s.nx,row)::s.H) (s.nx+1):=
 B4a (B3h ho h)
theorem F1u {len z ty:Nat} {ts:List T} (hl:ts.length=len*z) (h:∀L a w,Interp P G B L s a w->∃v w' ob,(execOp a.eval o).run P w = .ok (.value v) w'/\A3v w w'/\w'.heap=w.heap.push ob /\
  (Mono L w (L.grow w.heap.size) w'->A4e P (L.grow w.heap.size) w' w.heap.size (.cells ty (ts.map .t))/\RepV P (L.grow w.heap.size) w' (.row s.nx 0 len z) v)):AOp P G B o s (.t (.sl len ts)) s.H s.nx:=fun L a w hi=>by
 obtain⟨v,w',ob,hrun,hout,hw,hrest⟩:=h L a w hi;have hm:=A8r hi.heap hw;obtain⟨hrow,hr⟩:=hrest hm;unfold Oper.wp;rw[hrun,Oper.upon_value]
 have hold:∀g,g<w.heap.size->w'.heap[g]?=w.heap[g]?:=fun g hg=>by rw[hw,Array.getElem?_push,if_neg (by omega)]
 let L':Loc:=⟨fun g=>L.I g\/g=w.heap.size,L.μ,L.nx⟩
 have hm':Mono L w L' w':=⟨fun b hb=>⟨.inl hb,hold b (hi.heap.lt b hb)⟩,Nat.le_refl _,fun _ _=>rfl,hm.size,hm.shape⟩
 refine⟨v,L',rfl,?_,?_,hi.nx,hm',?_⟩
 ·simp only[RepV]at hr;obtain⟨_,hlt,c,rfl,hc,_⟩:=hr
  have e1:(L.grow w.heap.size).μ s.nx=w.heap.size:=by simp[Loc.grow,hi.nx]
  simp only[RepV,RepT];refine⟨_,c,rfl,hc,.inr ⟨rfl,by rw[e1];exact .inr rfl,RepC.mk fun k t hk=>?_⟩⟩;obtain⟨arr,ha,hal,hcell⟩:=hrow;obtain⟨x,hx,h1,hrx⟩:=hcell k (.t t) (by simp[hk]);refine⟨x,?_,h1,?_⟩
  ·rw[e1];simp[World.cell?,ha,hx]
  ·simp only[RepV]at hrx;exact RepT.keep (fun b hb=>⟨.inl hb,rfl⟩) t hrx
 ·refine⟨?_,fun b r hb=>(hi.heap.rep b r hb).keep hm' (hold _ (hi.heap.rep b r hb).lt),fun b r hb hI=>?_,hi.heap.inj,hi.heap.nx,A2b hi.heap hm'.keeps⟩
  ·rintro b (hb | rfl)
   ·exact Nat.lt_of_lt_of_le (hi.heap.lt b hb) hm.size
   ·rw[hw];simp
  ·rcases hI with hI | hI
   ·exact hi.heap.apart b r hb hI
   ·have:=(hi.heap.rep b r hb).lt;have e:L'.μ b=L.μ b:=rfl;omega
 ·refine⟨hm.size,fun g hg _=>hold g hg,fun _ h=>.inl h,fun g hg=>?_,fun g h=>.inr h,hm.shape,hout⟩;rcases hg with hg | rfl
  ·exact .inl hg
  ·exact .inr (.inl (Nat.le_refl _))
end
def srcP (H:Heap) (z:Nat):PV->Option (Nat×List PV)
 | .t (.v (.slice none n _))=>if n=0 then some (0,[])else none
 | .t (.sl m cs)=>if cs.length=m*z then some (m,cs.map .t)else none
 | .row b o m z'=>match look H b with
  | some (.cells _ cs)=>if z'=z/\o+m*z<=cs.length then some (m,(cs.drop o).take (m*z))else none
  | _=>none
 | _=>none
section
variable {P : Program} {G : A1c} {B : Nat} {s : A0c} {o : Oper}
theorem D7h {L:Loc} {H:Heap} {w:World} {z m:Nat} {p:PV} {ps:List PV} {u:Value} (hok:A1o P G L H w) (h:srcP H z p=some (m,ps)) (hp:RepV P L w p u) :
  ∃A c xs,u = .slice A m c/\xs.length=m*z/\A0y P L w ps xs/\(∀x∈xs,x.oneCell'=true)/\(A=none->m=0)/\∀ad,A=some ad->∀(j:Nat) x,xs[j]?=some x->w.cell? (ad.add j)=some x:=by
 unfold srcP at h;split at h
 ·rename_i n c;split at h
  ·rename_i hn;subst hn;injection h with h;injection h with h1 h2;subst h1;subst h2;simp only[RepV,RepT]at hp;subst hp;exact⟨none,c,[],rfl,by simp,by simp only[A0y],by simp,fun _=>rfl,fun _ h=>by cases h⟩
  ·cases h
 ·rename_i m' cs;split at h
  ·rename_i hl;injection h with h;injection h with h1 h2;subst h1;subst h2;simp only[RepV,RepT]at hp;obtain⟨a,c,rfl,hc,hI⟩:=hp;rcases hI with⟨rfl,rfl⟩ | ⟨hsp,hb,hr⟩
   ·exact⟨some a,c,[],rfl,by simp,by simp only[List.map_nil,A0y],by simp,(fun h=>by cases h),fun ad e j x hx=>by simp at hx⟩
   obtain⟨b,o,sp⟩:=a;simp only at hsp hb hr;subst hsp;obtain⟨xs,hxl,hcell,h1,hrep⟩:=RepC.values hr;refine⟨some ⟨b,o,none⟩,c,xs,rfl,by omega,A0y.ofT hrep,h1,(fun h=>by cases h),fun ad e j x hx=>?_⟩;injection e with e;subst e;rw[Addr.add_lit];exact hcell j x hx
  ·cases h
 ·rename_i b o m' z';split at h
  ·rename_i ty cs hl;split at h
   ·rename_i hc;obtain⟨rfl,hc⟩:=hc;injection h with h;injection h with h1 h2;subst h1;subst h2;simp only[RepV]at hp;obtain⟨hb,hm,c,rfl,hcap,_⟩:=hp;obtain⟨xs,hxl,hcell,h1,hrep⟩:=A7j (hok.rep b _ hl);refine⟨some ⟨L.μ b,o,none⟩,c,(xs.drop o).take (m'*z'),rfl,by simp;omega,hrep.drop_take o (m'*z'),fun x hx=>h1 x (List.mem_of_mem_drop (List.mem_of_mem_take hx)),(fun h=>by cases h),fun ad e j x hx=>?_⟩;injection e with e;subst e;rw[Addr.add_lit];rw[List.getElem?_take]at hx;split at hx
    ·rw[List.getElem?_drop]at hx;exact hcell _ x hx
    ·cases hx
   ·cases h
  ·cases h
 ·cases h
theorem E5h {α:Type} (b:Nat) (y:α):∀(H:List (Nat×α)),rem (upd H b y) b=rem H b
 | []=>rfl
 | (k,x)::r=>by
  by_cases hk:k=b
  ·simp[upd,rem,hk]
  ·simp[upd,rem,hk,E5h b y r]
def B6o (P:Program) (H:Heap) (nx:Nat) (t:TypeId) (d x:PV):Option (PV×Heap×Nat):=
 match A3e P t with
 | some (e,z,by',_)=>match srcP H z x with
  | some (m,ps)=>match d with
   | .t (.v (.slice none n c))=>if n=0/\c=0 then
     (if m=0 then some (d,H,nx)else if m*by'<=140737488355328/\m<=9223372036854775807 then some (.row nx 0 m z,(nx,.cells e ps)::H,nx+1)else none)else none
   | .row b o n z'=>match look H b with
    | some (.cells ty cs)=>
     if z'=z/\o=0/\ty=e/\cs.length=n*z/\(n+m)*by'<=140737488355328/\n+m<=9223372036854775807 then some (.row nx 0 (n+m) z,(nx,.cells e (cs++ps))::rem H b,nx+1)else none
    | _=>none
   | _=>none
  | none=>none
 | none=>none
theorem A6s {w:World} (t ty e:TypeId) (i:TypeInfo) (ht:P.underlying t=some (.slice e)) (hi:P.info? e=some i) (b:Option Addr) (sLen sCap c:Nat) (hroom:sLen<=sCap) :
  (Builtin.append_ #[t,t] ty #[.slice b sLen sCap,.slice none 0 c]).run P w = .ok (.slice b sLen sCap) w:=by
 cases b<;>simp[Builtin.append_,run_underlying ht,sizeOf,typeInfo,hi,Builtin.lenOf,hroom,Builtin.firstCells,storeCells]
theorem E1x {L:Loc} {w:World} {cs ps:List PV} {xs ys:List Value} (h:A0y P L w cs xs) (h':A0y P L w ps ys):A0y P L w (cs++ps) (xs++ys):=by
 have hl:=h.length;refine A0y.mk (by simp[h.length,h'.length]) fun k c x hk hx=>?_;by_cases hlt:k<cs.length
 ·rw[List.getElem?_append_left hlt]at hk;rw[List.getElem?_append_left (by omega)]at hx;obtain⟨y,hy,hr⟩:=h.at_ k hk;rw[hy]at hx;injection hx with hx;subst hx;exact hr
 ·rw[List.getElem?_append_right (by omega)]at hk hx;rw[hl]at hx;obtain⟨y,hy,hr⟩:=h'.at_ _ hk;rw[hy]at hx;injection hx with hx;subst hx;exact hr
theorem A9s {L L':Loc} {w w':World} {ty:TypeId} {g:Nat} {cs:List PV} {xs:List Value} {arr:Array Value} (hm:Mono L w L' w') (hg:w'.heap[g]?=some (.cells arr ty (0,0))) (hr:A0y P L w cs xs)
  (h1:∀x∈xs,x.oneCell'=true) (hpre:∀(j:Nat) x,xs[j]?=some x->arr[j]?=some x):A4e P L' w' g (.cells ty cs):=by
 refine⟨arr,hg,?_,fun j c hj=>?_⟩
 ·rw[<-hr.length];rcases Nat.lt_or_ge arr.size xs.length with hlt | hge
  ·have h2:xs[arr.size]?=some xs[arr.size]:=List.getElem?_eq_getElem hlt;have:=hpre _ _ h2;simp at this
  ·exact hge
 ·obtain⟨x,hx,hrr⟩:=hr.at_ j hj;exact⟨x,hpre j x hx,h1 x (List.mem_of_getElem? hx),RepV.keep hm c hrr⟩
theorem E1y {t:TypeId} {x y:Operand} {r:PV} {H':Heap} {nx':Nat} (ho:o.op = .call ⟨.builtin .append,#[x,y],#[t,t]⟩)
  (h:B6o P s.H s.nx t (s.ev G x) (s.ev G y)=some (r,H',nx')):AOp P G B o s r H' nx':=fun L a w hi=>by
 unfold B6o at h;split at h
 ·rename_i e z by' zc he
  obtain⟨i,zv,hu,hinf,hz,rfl,rfl,rfl,hzl,hpos,hone⟩:=A5b he
  have hzs:zv.cells.size=i.size:=by simpa using hzl
  split at h
  ·rename_i m ps hsrc;obtain⟨A,c,xs,hyv,hxl,hxr,hx1,hnone,hcell⟩:=D7h hi.heap hsrc (hi.ev y);have hxe:=hi.ev x
   have run_of:∀{v w'},(Builtin.append_ #[t,t] o.type #[a.eval x,a.eval y]).run P w = .ok v w'->(execOp a.eval o).run P w = .ok (.value v) w':=by
    intro v w' hh;simp[execOp,ho,resolve,invoke,builtin,hh]
   split at h
   ·rename_i n cap hd;split at h
    ·rename_i hnc;obtain⟨rfl,rfl⟩:=hnc;rw[hd]at hxe;have hxe':=hxe;simp only[RepV,RepT]at hxe';split at h
     ·rename_i hm0;subst hm0;injection h with h;injection h with h1 h2;injection h2 with h2 h3;subst h1;subst h2;subst h3;unfold Oper.wp
      have:(Builtin.append_ #[t,t] o.type #[a.eval x,a.eval y]).run P w = .ok (.slice none 0 0) w:=by
       rw[hxe',hyv]
       cases A with
       | none=>exact A6s t o.type e i hu hinf none 0 0 c (Nat.le_refl _)
       | some ad=>
        have hf:=run_firstCells_some (P:=P) w i.size 0 ad 0 c [] (by simp) (by simp);simp[Builtin.append_,run_underlying hu,sizeOf,typeInfo,hinf,Builtin.lenOf,hf]
      rw[run_of this,Oper.upon_value];refine⟨.slice none 0 0,L,rfl,by rw[hd];simp only[RepV,RepT],hi.heap,hi.nx,Mono.refl _ _,Ext.refl _ _ _⟩
     ·rename_i hm0;split at h
      ·rename_i hb;injection h with h;injection h with h1 h2;injection h2 with h2 h3;subst h1;subst h2;subst h3
       cases A with
       | none=>exact absurd (hnone rfl) hm0
       | some ad=>
        have hrun:=run_append_nil (P:=P) w t o.type e i zv hu hinf hz ad m c xs hxl (hcell ad rfl) (by omega) (by omega) (by omega);rw[<-hxe',<-hyv]at hrun;unfold Oper.wp;rw[run_of hrun,Oper.upon_value];have hge:=grownCap_ge w m 0 e
        have hn:=C6k (r:=.cells e ps) (w':=w.drew.alloc (.cells (xs.toArray++Builtin.zeroCells zv.cells (grownCap w m 0 e-m)) e)) (o:=.cells (xs.toArray++Builtin.zeroCells zv.cells (grownCap w m 0 e-m)) e) hi.heap ⟨rfl,rfl,rfl⟩ rfl
         (A9s (A8r hi.heap rfl) (heap_alloc_new w.drew _) hxr hx1 (fun j q hq=>by
          have hj:j<xs.length:=(List.getElem?_eq_some_iff.1 hq).1;rw[Array.getElem?_append_left (by simpa using hj)]
          simpa using hq))
        rw[<-hi.nx];refine⟨_,_,rfl,?_,hn.1,rfl,hn.2.1,hn.2.2⟩;simp only[RepV]
        have e1:(L.grow w.heap.size).μ L.nx=w.heap.size:=by simp[Loc.grow]
        refine⟨by simp[Loc.grow],by rw[e1];simp,grownCap w m 0 e,by rw[e1],hge,fun arr ty fz hh=>?_⟩;rw[e1,show w.heap.size=w.drew.heap.size from rfl,heap_alloc_new]at hh;injection hh with hh;injection hh with hh1 hh2;rw[<-hh1];simp only[Array.size_append,List.size_toArray,size_zeroCells,hzs,hxl];rw[<-Nat.add_mul]
        have:m+(grownCap w m 0 e-m)=grownCap w m 0 e:=by omega
        rw[this];omega
      ·cases h
    ·cases h
   ·rename_i b off n z' hd;split at h
    ·rename_i ty cs hl;split at h
     ·rename_i hc;obtain⟨rfl,rfl,rfl,hcl,hby,h63⟩:=hc;injection h with h;injection h with h1 h2;injection h2 with h2 h3;subst h1;subst h2;subst h3;rw[hd]at hxe;simp only[RepV]at hxe;obtain⟨hb,hμ,c0,hxv,hnc,hcap⟩:=hxe;obtain⟨olds,hol,hocell,ho1,horep⟩:=A7j (hi.heap.rep b _ hl);obtain⟨arr,harr,hle,hrow⟩:=hi.heap.rep b _ hl;have hcapA:=hcap arr _ _ harr;simp only[Nat.zero_add]at hcapA;have hnew:=E1x horep hxr
      have hnew1:∀q∈olds++xs,q.oneCell'=true:=by
       intro q hq;rcases List.mem_append.1 hq with hq | hq
       ·exact ho1 q hq
       ·exact hx1 q hq
      have e1:(L.grow (L.μ b)).μ L.nx=L.μ b:=by simp[Loc.grow]
      have rowrep:∀(w':World) (cap:Nat),w'.heap.size=w.heap.size->n+m<=cap->(∀arr ty fz,w'.heap[L.μ b]?=some (.cells arr ty fz)->cap*i.size<=arr.size) ->
        RepV P (L.grow (L.μ b)) w' (.row L.nx 0 (n+m) i.size) (.slice (some ⟨L.μ b,0,none⟩) (n+m) cap):=by
       intro w' cap hs hcc hh;simp only[RepV];refine⟨by simp[Loc.grow],by rw[e1,hs];exact hμ,cap,by rw[e1],hcc,fun arr ty fz he=>?_⟩;rw[e1]at he;have:=hh arr ty fz he;omega
      rw[<-hi.nx];unfold Oper.wp
      cases A with
      | none=>
       have hm0:=hnone rfl;subst hm0;have hx0:xs=[]:=List.eq_nil_of_length_eq_zero (by simpa using hxl);subst hx0;have hp0:ps=[]:=List.eq_nil_of_length_eq_zero (by simpa using hxr.length.symm);subst hp0;have hrun:=A6s (P:=P) (w:=w) t o.type _ i hu hinf (some ⟨L.μ b,0,none⟩) n c0 c hnc;rw[<-hxv,<-hyv]at hrun;rw[run_of hrun,Oper.upon_value,hxv];have hmv:=C9q hi.heap hl;rw[List.append_nil];exact⟨_,_,rfl,rowrep w c0 rfl hnc (fun arr ty fz he=>by have:=hcap arr ty fz he;omega),hmv.1,rfl,hmv.2.1,hmv.2.2⟩
      | some ad=>
       by_cases hroom:n+m<=c0
       ·have hfit:n*i.size+xs.length<=arr.size:=by
         rw[hxl,<-Nat.add_mul];exact Nat.le_trans (Nat.mul_le_mul_right _ hroom) hcapA
        have hrun:=run_append_room (P:=P) w t o.type _ i hu hinf (L.μ b) n c0 arr harr ad m c xs hxl (hcell ad rfl) hx1 hroom hfit;rw[<-hxv,<-hyv]at hrun;rw[run_of hrun,Oper.upon_value]
        have hwr:=A4u (w':=w.setRow (L.μ b) (arr.toList.take (n*i.size)++xs++arr.toList.drop (n*i.size+xs.length)).toArray) (r:=.cells ty (cs++ps)) hi.heap ⟨rfl,rfl,rfl⟩ hl (by simp)
         (fun g hg=>setRow_other w _ g _ hg) (A7b harr (by simp;omega))
         (fun hm=>A9s hm (setRow_heap w _ arr _ _ _ harr) hnew hnew1 (fun j q hq=>by
          simp only[List.getElem?_toArray];have hjl:j<(olds++xs).length:=(List.getElem?_eq_some_iff.1 hq).1
          have holds:olds=arr.toList.take (n*i.size):=by
           apply List.ext_getElem?;intro k;rw[List.getElem?_take];by_cases hk:k<n*i.size
           ·rw[if_pos hk]
            have hk':k<olds.length:=by omega
            rw[List.getElem?_eq_getElem hk'];have:=hocell k _ (List.getElem?_eq_getElem hk');rw[cell_of_row w _ k arr _ _ harr]at this;simpa using this.symm
           ·rw[if_neg hk,List.getElem?_eq_none (by omega)]
          rw[<-holds,List.getElem?_append_left hjl]
          exact hq))
        have hmv:=C9q hwr.1 (r:=.cells ty (cs++ps)) (b:=b) (by rw[A0f,if_pos rfl,hl];rfl);rw[E5h]at hmv;refine⟨_,_,rfl,rowrep _ c0 (by simp) hroom (fun arr' ty' fz he=>?_),hmv.1,rfl,hwr.2.1.trans hmv.2.1,hwr.2.2.trans hmv.2.2⟩;rw[setRow_heap w _ arr _ _ _ harr]at he;injection he with he;injection he with he1 he2;rw[<-he1];simp;omega
       ·have hrun:=run_append_grow (P:=P) w t o.type _ i zv hu hinf hz ⟨L.μ b,0,none⟩ n c0 olds (by omega) (fun j q hq=>by rw[Addr.add_lit,Nat.zero_add];exact hocell j q hq) ad m c xs hxl (hcell ad rfl) (by omega) (by omega) (growslice_fits (by omega) hby);rw[<-hxv,<-hyv]at hrun;rw[run_of hrun,Oper.upon_value];have hge:=grownCap_ge w (n+m) c0 ty;have hrm:=F1s b hi.heap
        have hn:=C6k (r:=.cells ty (cs++ps)) (w':=w.drew.alloc (.cells (olds.toArray++xs.toArray++Builtin.zeroCells zv.cells (grownCap w (n+m) c0 ty-(n+m))) ty)) (o:=.cells (olds.toArray++xs.toArray++Builtin.zeroCells zv.cells (grownCap w (n+m) c0 ty-(n+m))) ty) hrm.1 ⟨rfl,rfl,rfl⟩ rfl
         (A9s (A8r hi.heap rfl) (heap_alloc_new w.drew _) hnew hnew1 (fun j q hq=>by
          have hj:j<(olds++xs).length:=(List.getElem?_eq_some_iff.1 hq).1;rw[Array.getElem?_append_left (by simpa using hj)]
          simpa using hq))
        refine⟨_,_,rfl,?_,hn.1,rfl,hn.2.1,hrm.2.trans hn.2.2⟩;simp only[RepV]
        have e1:(L.grow w.heap.size).μ L.nx=w.heap.size:=by simp[Loc.grow]
        refine⟨by simp[Loc.grow],by rw[e1];simp,grownCap w (n+m) c0 ty,by rw[e1],hge,fun arr ty' fz hh=>?_⟩;rw[e1,show w.heap.size=w.drew.heap.size from rfl,heap_alloc_new]at hh;injection hh with hh;injection hh with hh1 hh2;rw[<-hh1];simp only[Array.size_append,List.size_toArray,size_zeroCells,hzs,hxl,hol,hcl];rw[<-Nat.add_mul,<-Nat.add_mul]
        have:n+m+(grownCap w (n+m) c0 ty-(n+m))=grownCap w (n+m) c0 ty:=by omega
        rw[this];omega
     ·cases h
    ·cases h
   ·cases h
  ·cases h
 ·cases h
end
def C6l (P:Program) (t:TypeId):Option (Nat->Option (Nat×Nat)):=
 match P.underlying t with
 | some (.array _ e)=>(P.info? e).map fun i=>fun k=>some (k*i.size,i.size)
 | some (.struct fields)=>(fields.toList.mapM (fun f=>(P.info? f.type).map fun i=>(f.offset,i.size))).map fun places=>fun k=>places[k]?
 | _=>none
def C4f (P:Program) (t:TypeId) (parts:List (Nat×PV)):Option PV:=
 match C6l P t,A2n P t with
 | some place,some zc=>(B0w place (zc.map fun x=>.t (.v x)) parts).map agOf
 | _,_=>none
section
variable {P : Program} {G : A1c} {B : Nat} {s : A0c} {o : Oper}
theorem E5i {t:TypeId} {parts:Array (Nat×Operand)} {r:PV} (ho:o.op = .build t parts) (h:C4f P t (parts.toList.map fun p=>(p.1,s.ev G p.2))=some r):AOp P G B o s r s.H s.nx:=by
 refine A3j fun L a w hi=>?_;unfold C4f at h;split at h
 ·rename_i place zc hpl hzc
  cases hf:B0w place (zc.map fun x=>.t (.v x)) (parts.toList.map fun p=>(p.1,s.ev G p.2))with
  | none=>rw[hf]at h;cases h
  | some cs=>
   rw[hf]at h;injection h with h;subst h;unfold A2n at hzc;split at hzc
   ·rename_i it hit;split at hzc
    ·rename_i z hz;split at hzc
     ·rename_i h1;injection hzc with hzc;subst hzc;obtain⟨hp1,hp2⟩:=C9s hi parts.toList;obtain⟨arr,hfill,hrep,h1'⟩:=C0e (L:=L) (w:=w) _ _ _ _ z.cells hp1 hp2 (C4e P L w _) (List.all_eq_true.1 h1) hf
      have hpl2:(parts.map fun(k,x)=>(k,a.eval x)).toList=parts.toList.map fun p=>(p.1,a.eval p.2):=by simp
      have hb:P.built t (parts.map fun(k,x)=>(k,a.eval x)).toList=some arr:=by
       unfold Program.built;unfold C6l at hpl;rw[hpl2];split at hpl
       ·rename_i n e hu
        cases hie:P.info? e with
        | none=>rw[hie]at hpl;cases hpl
        | some ie=>
         rw[hie]at hpl;injection hpl with hpl;subst hpl;simp only[hit,hu,hz,hie,hfill]
       ·rename_i fields hu
        cases hm:fields.toList.mapM (fun f=>(P.info? f.type).map fun i=>(f.offset,i.size))with
        | none=>rw[hm]at hpl;cases hpl
        | some places=>
         rw[hm]at hpl;injection hpl with hpl;subst hpl;simp only[hit,hu,hz,hm,List.getElem?_toArray,hfill]
       ·cases hpl
      have hrun:=run_build (P:=P) w t _ arr hb;refine⟨.agg arr,?_,C6j h1' hrep⟩;simp only[execOp,ho,Sem.run_bind,hrun,Result.andThen_ok];rfl
     ·cases hzc
    ·cases hzc
   ·cases hzc
 ·cases h
def opV (P:Program) (H:Heap) (nx:Nat) (ev:Operand->PV) (o:Op):Option (PV×Heap×Nat):=
 match o with
 | .store t a x=>(C4d P H t (ev a) (ev x)).map fun H'=>(.t (.v undef),H',nx)
 | .makeSlice t l c=>(E1w P t (ev l) (ev c) nx).map fun q=>(q.1,(nx,q.2)::H,nx+1)
 | .buildSlice t len parts=>(A3f P t len (parts.toList.map fun p=>(p.1,ev p.2)) nx).map fun q=>(q.1,(nx,q.2)::H,nx+1)
 | .build t parts=>(C4f P t (parts.toList.map fun p=>(p.1,ev p.2))).map fun r=>(r,H,nx)
 | .box t x=>(A1g (ev x)).map fun ps=>(.ptr nx 0,(nx,.cells t ps)::H,nx+1)
 | .alloc t=>(A2n P t).map fun zc=>(.ptr nx 0,(nx,.cells t (zc.map fun x=>.t (.v x)))::H,nx+1)
 | .call ⟨.builtin .append,⟨[x,y]⟩,⟨[t,t']⟩⟩=>if t=t' then B6o P H nx t (ev x) (ev y)else none
 | o=>(A3k P H ev o).map fun r=>(r,H,nx)
theorem F6a {r:PV} {H':Heap} {nx':Nat} (h:opV P s.H s.nx (s.ev G) o.op=some (r,H',nx')):AOp P G B o s r H' nx':=by
 unfold opV at h;split at h
 ·rename_i t x y ho
  cases hs:C4d P s.H t (s.ev G x) (s.ev G y)with
  | none=>rw[hs]at h;cases h
  | some H1=>
   rw[hs]at h;injection h with h;injection h with h1 h2;injection h2 with h2 h3;subst h1;subst h2;subst h3;exact E5d ho hs
 ·rename_i t x y ho
  cases hs:E1w P t (s.ev G x) (s.ev G y) s.nx with
  | none=>rw[hs]at h;cases h
  | some q=>
   rw[hs]at h;injection h with h;injection h with h1 h2;injection h2 with h2 h3;subst h1;subst h2;subst h3;exact F1t ho hs
 ·rename_i t len parts ho
  cases hs:A3f P t len (parts.toList.map fun p=>(p.1,s.ev G p.2)) s.nx with
  | none=>rw[hs]at h;cases h
  | some q=>
   rw[hs]at h;injection h with h;injection h with h1 h2;injection h2 with h2 h3;subst h1;subst h2;subst h3;exact C3l ho hs
 ·rename_i t parts ho
  cases hs:C4f P t (parts.toList.map fun p=>(p.1,s.ev G p.2))with
  | none=>rw[hs]at h;cases h
  | some q=>
   rw[hs]at h;injection h with h;injection h with h1 h2;injection h2 with h2 h3;subst h1;subst h2;subst h3;exact E5i ho hs
 ·rename_i t x ho
  cases hs:A1g (s.ev G x)with
  | none=>rw[hs]at h;cases h
  | some q=>
   rw[hs]at h;injection h with h;injection h with h1 h2;injection h2 with h2 h3;subst h1;subst h2;subst h3;exact F5z ho hs
 ·rename_i t ho
  cases hs:A2n P t with
  | none=>rw[hs]at h;cases h
  | some q=>
   rw[hs]at h;injection h with h;injection h with h1 h2;injection h2 with h2 h3;subst h1;subst h2;subst h3;exact E5f ho hs
 ·rename_i x y t t' ho;split at h
  ·rename_i e;subst e;exact E1y ho h
  ·cases h
 ·cases hs:A3k P s.H (s.ev G) o.op with
  | none=>rw[hs]at h;cases h
  | some q=>
   rw[hs]at h;injection h with h;injection h with h1 h2;injection h2 with h2 h3;subst h1;subst h2;subst h3;exact E1v hs
end
def IsFn (P:Program) (f:FuncId):Prop:=∃fn c,P.funcs[f]?=some fn/\fn.body=some c/\(fn.name == "runtime.NumGoroutine")=false
theorem IsFn.run {P:Program} {f:FuncId} (h:IsFn P f) (args:Array Value) (w:World):(callFunc f args).run P w = .ok (.enter f args) w:=by
 obtain⟨fn,c,hf,hb,hn⟩:=h
 have hn':¬fn.name = "runtime.NumGoroutine":=by simpa using hn
 simp[callFunc,hf,hn',hb]
def A1d (P:Program) (G:A1c) (f:FuncId) (args:List T) (R:T->Prop):Prop:=
 IsFn P f/\∀(I:Nat->Prop) (w:World) (us:Array Value),(∀b,I b->b<w.heap.size)->(∀g cs,look G g=some cs->I g/\RepG I w cs g)->RepL I w args us.toList ->
  Calls P f us w fun e w'=>∃v r I',e = .returned v/\R r/\RepT I' w' r v/\A3v w w'/\w.heap.size<=w'.heap.size/\(∀g,g<w.heap.size->w'.heap[g]?=w.heap[g]?) /\
   (∀g,I g->I' g)/\(∀g,I' g->I g\/w.heap.size<=g)/\(∀g,I' g->g<w'.heap.size)
theorem A1d.mono {P:Program} {G:A1c} {f:FuncId} {args:List T} {R R':T->Prop} (h:A1d P G f args R) (hr:∀r,R r->R' r):A1d P G f args R':=
 ⟨h.1,fun I w us h1 h2 h3=>(h.2 I w us h1 h2 h3).mono fun _ _ ⟨v,r,I',he,hR,rest⟩=>⟨v,r,I',he,hr r hR,rest⟩⟩
mutual
@[simp] def toT (H:Heap):PV->Option (T×List Nat)
 | .t x=>some (x,[])
 | .row b o n z=>match look H b with
  | some (.cells _ cs)=>if o+n*z<=cs.length then(allT ((cs.drop o).take (n*z))).map fun ts=>(.sl n ts,[b])else none
  | _=>none
 | .ag cs=>(toTs H cs).map fun q=>(.ag q.1,q.2)
 | .tu cs=>(toTs H cs).map fun q=>(.tu q.1,q.2)
 | _=>none
@[simp] def toTs (H:Heap):List PV->Option (List T×List Nat)
 | []=>some ([],[])
 | p::ps=>match toT H p,toTs H ps with
  | some (x,F),some (xs,F')=>some (x::xs,F++F')
  | _,_=>none
end
def Lent (L:Loc) (H:Heap) (F:List Nat) (g:Nat):Prop:=∃b∈F,(∃r,look H b=some r)/\L.μ b=g
section
variable {P : Program} {G : A1c} {L : Loc} {H : Heap} {w : World}
theorem RepC.ofRow {I:Nat->Prop} {g:Nat} {ts:List T}:∀{o:Nat} {xs:List Value},(∀(j:Nat) x,xs[j]?=some x->w.cell? ⟨g,o+j,none⟩=some x/\x.oneCell'=true)->RepL I w ts xs->RepC I w ts g o:=by
 intro o xs hc hr;refine RepC.mk fun k c hk=>?_;obtain⟨x,hx,h⟩:=hr.at_ k hk;exact⟨x,(hc k x hx).1,(hc k x hx).2,h⟩
theorem B2c {I I':Nat->Prop} (h:∀g,I g->I' g):C3h I I' w w:=fun b hb=>⟨h b hb,rfl⟩
mutual
theorem D4a (hok:A1o P G L H w):∀(p:PV) {x:T} {F:List Nat} {u:Value},toT H p=some (x,F)->RepV P L w p u->∀F',(∀b∈F,b∈F')->RepT (fun g=>L.I g\/Lent L H F' g) w x u
 | .t x,y,F,u,h,hr,F',_=>by
  simp only[toT,Option.some.injEq,Prod.mk.injEq]at h;obtain⟨rfl,rfl⟩:=h;simp only[RepV]at hr;exact RepT.keep (B2c fun g hg=>.inl hg) _ hr
 | .row b o n z,y,F,u,h,hr,F',hF=>by
  simp only[toT]at h;split at h
  ·rename_i ty cs hl;split at h
   ·rename_i hb
    cases ha:allT ((cs.drop o).take (n*z))with
    | none=>rw[ha]at h;cases h
    | some ts=>
     rw[ha]at h;injection h with h;injection h with h1 h2;subst h1;subst h2;simp only[RepV]at hr;obtain⟨hb',hμ,c,rfl,hc,_⟩:=hr;obtain⟨xs,hxl,hcell,h1,hrep⟩:=A7j (hok.rep b _ hl);have hseg:=hrep.drop_take o (n*z);rw[B1z ha]at hseg;have hT:=hseg.toT;simp only[RepT];refine⟨⟨L.μ b,o,none⟩,c,rfl,hc,.inr ⟨rfl,.inr ⟨b,hF b (by simp),⟨_,hl⟩,rfl⟩,?_⟩⟩;have hT':=RepL.keep (B2c (I:=L.I) (I':=fun g=>L.I g\/Lent L H F' g) (w:=w) fun g hg=>.inl hg) ts hT;refine RepC.ofRow (xs:=(xs.drop o).take (n*z)) (fun j x hx=>?_) hT';rw[List.getElem?_take]at hx;split at hx
     ·rw[List.getElem?_drop]at hx;exact⟨hcell _ x hx,h1 x (List.mem_of_getElem? hx)⟩
     ·cases hx
   ·cases h
  ·cases h
 | .ag cs,y,F,u,h,hr,F',hF=>by
  simp only[toT]at h
  cases hq:toTs H cs with
  | none=>rw[hq]at h;cases h
  | some q=>
   rw[hq]at h;injection h with h;injection h with h1 h2;subst h1;subst h2;simp only[RepV]at hr;obtain⟨us,rfl,h1,hl⟩:=hr;simp only[RepT];exact⟨us,rfl,h1,B4t hok cs hq hl F' hF⟩
 | .tu cs,y,F,u,h,hr,F',hF=>by
  simp only[toT]at h
  cases hq:toTs H cs with
  | none=>rw[hq]at h;cases h
  | some q=>
   rw[hq]at h;injection h with h;injection h with h1 h2;subst h1;subst h2;simp only[RepV]at hr;obtain⟨us,rfl,hl⟩:=hr;simp only[RepT];exact⟨us,rfl,B4t hok cs hq hl F' hF⟩
 | .ptr _ _,_,_,_,h,_,_,_=>by simp[toT]at h
 | .fn _ _ _,_,_,_,h,_,_,_=>by simp[toT]at h
 | .ic _ _,_,_,_,h,_,_,_=>by simp[toT]at h
 | .mp _,_,_,_,h,_,_,_=>by simp[toT]at h
 | .dead,_,_,_,h,_,_,_=>by simp[toT]at h
theorem B4t (hok:A1o P G L H w):∀(ps:List PV) {q:List T×List Nat} {us:List Value},toTs H ps=some q->A0y P L w ps us->∀F',(∀b∈q.2,b∈F')->RepL (fun g=>L.I g\/Lent L H F' g) w q.1 us
 | [],q,us,h,hr,F',_=>by
  simp only[toTs,Option.some.injEq]at h;subst h;simp only[A0y]at hr;simp only[RepL];exact hr
 | p::ps,q,us,h,hr,F',hF=>by
  simp only[toTs]at h;split at h
  ·rename_i x F xs F2 hx hxs;injection h with h;subst h;simp only[A0y]at hr;obtain⟨u,us',rfl,h1,h2⟩:=hr;simp only[RepL];exact⟨u,us',rfl,D4a hok p hx h1 F' (fun b hb=>hF b (by simp[hb])),B4t hok ps hxs h2 F' (fun b hb=>hF b (by simp[hb]))⟩
  ·cases h
end
@[simp] def remAll (H:Heap) (F:List Nat):Heap:=F.foldl rem H
theorem A1m:∀(F:List Nat) (H:Heap) (k:Nat) (r:Row),look (remAll H F) k=some r->look H k=some r/\k∉F
 | [],H,k,r,h=>⟨h,by simp⟩
 | b::F,H,k,r,h=>by
  have h':look (remAll (rem H b) F) k=some r:=h;obtain⟨h1,h2⟩:=A1m F (rem H b) k r h';rw[A1e]at h1;split at h1
  ·cases h1
  ·rename_i hne;exact⟨h1,by simp[hne,h2]⟩
def A3s:T->Bool
 | .v _=>true
 | .tu [.v _,.v _]=>true
 | _=>false
theorem C4g {I I':Nat->Prop} {w w':World} {x:T} {u:Value} (h:A3s x=true) (hr:RepT I w x u):RepT I' w' x u:=by
 cases x with
 | v x=>simpa only[RepT]using hr
 | tu cs=>
  cases cs with
  | nil=>simp[A3s]at h
  | cons a cs=>cases cs with
   | nil=>cases a<;>simp[A3s]at h
   | cons b cs=>cases cs with
    | nil=>cases a<;>cases b<;>first | (simp[A3s]at h;done) | (simp only[RepT,RepL]at hr ⊢;exact hr)
    | cons c cs=>cases a<;>simp[A3s]at h
 | _=>simp[A3s]at h
theorem E5j {B:Nat} {s:A0c} {o:Oper} {f:FuncId} {args:Array Operand} {ts:Array TypeId} {targs:List T} {F:List Nat} {r:T} (ho:o.op = .call ⟨.value (.func f),args,ts⟩)
  (hT:toTs s.H (args.toList.map (s.ev G))=some (targs,F)) (hc:A1d P G f targs (· = r)) :
  AOp P G B o s (.t r) (if A3s r then s.H else remAll s.H F) s.nx:=fun L a w hi=>by
 have hargs:A0y P L w (args.toList.map (s.ev G)) (args.map a.eval).toList:=by
  refine A0y.mk (by simp) fun k c x hk hx=>?_;simp only[List.getElem?_map,Array.toList_map]at hk hx
  cases ha:args.toList[k]? with
  | none=>rw[ha]at hk;cases hk
  | some q=>
   rw[ha]at hk hx;injection hk with hk;injection hx with hx;subst hk;subst hx;exact hi.ev q
 have hrep:=B4t hi.heap _ hT hargs F (fun b hb=>hb);unfold Oper.wp
 have hrun:(execOp a.eval o).run P w = .ok (.enter f (args.map a.eval)) w:=by
  simp[execOp,ho,resolve,Act.eval,Deferred.ofValue,invoke,hc.1.run]
 rw[hrun,Oper.upon_enter]
 have hlt:∀b,(L.I b\/Lent L s.H F b)->b<w.heap.size:=by
  rintro b (h | ⟨k,_,⟨r,hr⟩,rfl⟩)
  ·exact hi.heap.lt b h
  ·exact(hi.heap.rep k r hr).lt
 refine(hc.2 _ w _ hlt (fun g cs hg=>⟨.inl (hi.heap.glob g cs hg).1,RepG.keep (B2c fun g hg=>.inl hg) (hi.heap.glob g cs hg).1 (hi.heap.glob g cs hg).2⟩) hrep).mono ?_;rintro e w' ⟨v,r',I',rfl,rfl,hv,hout,hsz,hsame,hmore,hnew,hltI⟩
 have hshape:A1y w w':=fun g hg arr ty fz he=>⟨arr,fz,by rw[<-hsame g hg];exact he,rfl⟩
 by_cases hp:A3s r'=true
 ·rw[if_pos hp]
  have hm:Mono L w L w':=⟨fun b hb=>⟨hb,hsame b (hi.heap.lt b hb)⟩,Nat.le_refl _,fun _ _=>rfl,hsz,hshape⟩
  refine⟨v,L,rfl,by simp only[RepV];exact C4g hp hv,?_,hi.nx,hm,?_⟩
  ·exact⟨fun b hb=>Nat.lt_of_lt_of_le (hi.heap.lt b hb) hsz,fun b r hb=>(hi.heap.rep b r hb).keep hm (hsame _ (hi.heap.rep b r hb).lt),hi.heap.apart,hi.heap.inj,hi.heap.nx,A2b hi.heap hm.keeps⟩
  ·exact⟨hsz,fun g hg _=>hsame g hg,fun _ h=>h,fun _ h=>.inl h,fun _ h=>.inr h,hshape,hout⟩
 ·rw[if_neg hp]
  have hm:Mono L w { L with I:=I' } w':=⟨fun b hb=>⟨hmore b (.inl hb),hsame b (hi.heap.lt b hb)⟩,Nat.le_refl _,fun _ _=>rfl,hsz,hshape⟩
  refine⟨v,{ L with I:=I' },rfl,by simp only[RepV];exact hv,?_,hi.nx,hm,?_⟩
  ·refine⟨hltI,fun b r hb=>?_,fun b r hb hI=>?_,fun b b' r r' hb hb'=>?_,fun b r hb=>?_,A2b hi.heap hm.keeps⟩
   ·have hb':=(A1m F s.H b r hb).1;exact(hi.heap.rep b r hb').keep hm (hsame _ (hi.heap.rep b r hb').lt)
   ·obtain⟨hb',hnF⟩:=A1m F s.H b r hb;rcases hnew _ hI with(h | ⟨k,hk,⟨r2,hr2⟩,e⟩) | h
    ·exact hi.heap.apart b r hb' h
    ·exact hnF ((hi.heap.inj k b r2 r hr2 hb' e)▸hk)
    ·have:=(hi.heap.rep b r hb').lt;exact absurd this (by have h':w.heap.size<=L.μ b:=h;omega)
   ·exact hi.heap.inj b b' r r' (A1m F s.H b r hb).1 (A1m F s.H b' r' hb').1
   ·exact hi.heap.nx b r (A1m F s.H b r hb).1
  ·refine⟨hsz,fun g hg _=>hsame g hg,fun g h=>hmore g (.inl h),fun g h=>?_,fun g ⟨k,r,hk,e⟩=>.inr ⟨k,r,(A1m F s.H k r hk).1,e⟩,hshape,hout⟩;rcases hnew g h with(h | ⟨k,_,⟨r2,hr2⟩,e⟩) | h
   ·exact .inl h
   ·exact .inr (.inr ⟨k,r2,hr2,e⟩)
   ·exact .inr (.inl h)
end
def A4l (P:Program) (s:A0c):List ResultVar->Option (List PV)
 | []=>some []
 | .tmp t::r=>match look s.env t,A4l P s r with
  | some p,some ps=>some (p::ps)
  | _,_=>none
 | .cell a t::r=>match look s.env a,A4l P s r with
  | some (.ptr b o),some ps=>(D3y P s.H t (.ptr b o)).map (· :: ps)
  | _,_=>none
def B6p (P:Program) (fn:Func) (s:A0c):Option PV:=
 match A4l P s fn.results.toList with
 | some [p]=>some p
 | some ps=>some (match allT ps with | some ts=>.t (.tu ts) | none=>.tu ps)
 | none=>none
section
variable {P : Program} {G : A1c} {B : Nat} {L : Loc} {s : A0c} {a : Act} {w : World}
def C9t (tmps:Array Value):ResultVar->Sem Value
 | .tmp t=>pure (tmps.getD t undef)
 | .cell a t=>do loadVar t (<-asAddr (tmps.getD a undef))
theorem E1z (fn:Func) (tmps:Array Value):results fn tmps=(do let vs <-fn.results.mapM (C9t tmps);pure (if h:vs.size=1 then vs[0]else .tuple vs)):=by
 unfold results;congr 2
theorem B0x (hi:Interp P G B L s a w):∀(rs:List ResultVar) {ps:List PV},A4l P s rs=some ps ->
  ∃vs:List Value,(rs.mapM (C9t a.tmps)).run P w = .ok vs w/\A0y P L w ps vs
 | [],ps,h=>by
  simp only[A4l,Option.some.injEq]at h;subst h;exact⟨[],by simp,by simp only[A0y]⟩
 | .tmp t::r,ps,h=>by
  simp only[A4l]at h;split at h
  ·rename_i p ps' hl hr;injection h with h;subst h;obtain⟨vs,hrun,hrep⟩:=B0x hi r hr;refine⟨a.tmps.getD t undef::vs,?_,by simp only[A0y];exact⟨_,_,rfl,hi.env t p hl,hrep⟩⟩;rw[List.mapM_cons];simp only[C9t,Sem.run_bind,Sem.run_pure,Result.andThen_ok,hrun]
  ·cases h
 | .cell x t::r,ps,h=>by
  simp only[A4l]at h;split at h
  ·rename_i b o ps' hl hr
   cases hv:D3y P s.H t (.ptr b o)with
   | none=>rw[hv]at h;cases h
   | some q=>
    rw[hv]at h;injection h with h;subst h;obtain⟨vs,hrun,hrep⟩:=B0x hi r hr;have hx:=hi.env x _ hl;obtain⟨v,hload,hvr⟩:=C9k hi.heap hv hx;have hx':=hx;simp only[RepV]at hx';refine⟨v::vs,?_,by simp only[A0y];exact⟨_,_,rfl,hvr,hrep⟩⟩;rw[List.mapM_cons]
    have hload':(C9t a.tmps (.cell x t)).run P w = .ok v w:=by
     rw[hx'.2]at hload;simp only[C9t,hx'.2,asAddr];simpa[Instr.loadAt,Instr.sureAddr]using hload
    simp only[Sem.run_bind,hload',Result.andThen_ok,hrun,Sem.run_pure]
  ·cases h
theorem C0f {fn:Func} {p:PV} (hi:Interp P G B L s a w) (h:B6p P fn s=some p):∃v,(results fn a.tmps).run P w = .ok v w/\RepV P L w p v:=by
 unfold B6p at h
 have key:∀{ps},A4l P s fn.results.toList=some ps->∃vs:Array Value,(results fn a.tmps).run P w = .ok (if h:vs.size=1 then vs[0]else .tuple vs) w/\A0y P L w ps vs.toList:=by
  intro ps hps;obtain⟨vs,hrun,hrep⟩:=B0x hi _ hps;refine⟨vs.toArray,?_,by simpa using hrep⟩;rw[E1z,Array.mapM_eq_mapM_toList];simp[hrun]
 split at h
 ·rename_i q hq;injection h with h;subst h;obtain⟨vs,hrun,hrep⟩:=key hq;simp only[A0y]at hrep;obtain⟨x,xs,e,hx,rfl⟩:=hrep
  have hvs:vs = #[x]:=by cases vs;simpa using e
  subst hvs;exact⟨x,by simpa using hrun,hx⟩
 ·rename_i ps hne hq;injection h with h;subst h;obtain⟨vs,hrun,hrep⟩:=key hq;have hl:=hrep.length
  have h1:¬vs.size=1:=by
   intro h1
   have:ps.length=1:=by rw[<-hl];simpa using h1
   match ps,this with
   | [q],_=>exact hne q rfl
  rw[dif_neg h1]at hrun;refine⟨.tuple vs,hrun,?_⟩
  cases ha:allT ps with
  | none=>simp only[RepV];exact⟨vs,rfl,hrep⟩
  | some ts=>
   have:=B1z ha;subst this;simp only[RepV,RepT];exact⟨vs,rfl,hrep.toT⟩
 ·cases h
theorem B4b:∀(args:List PV) (k j:Nat) (p:PV),look ((args.zipIdx j).map (fun q=>(q.2,q.1))) k=some p->j<=k/\args[k-j]?=some p
 | [],k,j,p,h=>by simp[look]at h
 | x::args,k,j,p,h=>by
  simp only[List.zipIdx_cons,List.map_cons,look]at h;by_cases e:j=k
  ·rw[if_pos e]at h;subst e;simpa using h
  ·rw[if_neg e]at h;obtain⟨h1,h2⟩:=B4b args k (j+1) p h;refine⟨by omega,?_⟩;rw[show k-j=(k-(j+1))+1 by omega];simpa using h2
end
end Go.Abs
