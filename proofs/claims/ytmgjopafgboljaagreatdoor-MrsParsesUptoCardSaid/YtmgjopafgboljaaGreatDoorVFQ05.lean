/- Auxiliary facts. -/
import Derived.Test.YtmgjopafgboljaaGreatDoorVFQ04
import Derived.Laws.MakeOwn
set_option linter.unusedSimpArgs false
set_option linter.unusedVariables false
open Option renaming some->Xc
open Nat renaming le_refl->Xd,add_mul->Xo,zero_add->Xr,mod_lt->Xv,mul_le_mul_right->Xz,lt_of_lt_of_le->X7
open Go.Result renaming andThen_ok->Xe
open List renaming mem_of_getElem?->Xf,getElem?_append_left->Xh,getElem?_eq_some_iff->Xi,getElem?_toArray->Xk,getElem?_take->Xl,getElem?_append_right->Xm,getElem?_map->Xn,append_assoc->Xs,getElem?_drop->Xt,all_eq_true->Xu,getElem?_eq_getElem->Xw,length_cons->Xx,getElem?_range->Xy,getD_eq_getElem?_getD->X0,zipIdx_cons->X1,map_cons->X2,mem_append->X3,mem_of_mem_take->X4,mem_of_mem_drop->X5,size_toArray->Ya,eq_nil_of_length_eq_zero->Yb,mapM_cons->Yc
open Array renaming length_toList->Xg,range->Xj,getElem?_push_lt->Xp,getElem?_eq_getElem->Xq,toList_map->X6,getElem?_append_left->X8,size_append->X9
namespace Go.Abs
open Go
@[simp] def upd {α:Type}:List (Nat×α)->Nat->α->List (Nat×α)
 | [],_,_=>[]
 | (k,x)::r,b,y=>if k=b then(k,y)::r else(k,x)::upd r b y
@[simp] def rem {α:Type}:List (Nat×α)->Nat->List (Nat×α)
 | [],_=>[]
 | (k,x)::r,b=>if k=b then rem r b else(k,x)::rem r b
theorem A7 {α:Type} (b:Nat) (y:α) (j:Nat):∀(H:List (Nat×α)),Aj (upd H b y) j=if j=b then(Aj H b).map (λ_=>y)else Aj H j
 | []=>by simp[upd,Aj]
 | (k,x)::r=>by
  simp only[upd];by_cases hk:k=b
  .rw[zu hk];simp only[Aj,hk];by_cases hj:b=j
   .simp[hj]
   .simp[hj,Ne.symm hj]
  .rw[zw hk];simp only[Aj,A7 b y j r];by_cases hj:k=j
   .have hb:¬j=b:=by omega
    simp[hj,hb]
   .simp only[zw hj,zw hk]
theorem BZ {α:Type} (b j:Nat):∀(H:List (Nat×α)),Aj (rem H b) j=if j=b then none else Aj H j
 | []=>by simp[rem,Aj]
 | (k,x)::r=>by
  simp only[rem];by_cases hk:k=b
  .rw[zu hk,BZ b j r];simp only[Aj];by_cases hj:j=b
   .simp[hj]
   .simp only[zw hj];rw[zw (by omega)]
  .rw[zw hk];simp only[Aj,BZ b j r];by_cases hj:k=j
   .have hb:¬j=b:=by omega
    simp[hj,hb]
   .simp[hj]
def Loc.grow (L:Loc) (g:Nat):Loc:={ I:=L.I,μ:=λb=>if b=L.nx then g else L.μ b,nx:=L.nx+1 }
theorem D0.keep {P:Program} {L L':Loc} {w w':World} (h:Bh L w L' w') {g:Nat} {r:Row} (hr:D0 P L w g r) (hg:w'.heap[g]?=w.heap[g]?):D0 P L' w' g r:=by
 cases r with
 | cells ty cs=>
  obtain⟨arr,ha,hl,hc⟩:=hr;refine⟨arr,hg.trans ha,hl,λj c hj=>?_⟩;obtain⟨x,hx,h1,hr⟩:=hc j c hj;exact⟨x,hx,h1,Aq.keep h c hr⟩
 | iter s pos=>exact hg.trans hr
 | map kk es=>obtain⟨arr,c,h1,h2⟩:=hr;exact⟨arr,c,hg.trans h1,h2⟩
 | lp l x k p=>exact⟨hr.1,hg.trans hr.2.1,Aq.keep h p hr.2.2⟩
 | blk l o=>exact⟨hr.1,hg.trans hr.2⟩
section
variable {P : Program} {G : AM} {L : Loc} {H : Ak} {w w' : World}
theorem DX {L':Loc} (hok:B1 P G L H w) (hm:Gk L.I L'.I w w'):∀g cs,Aj G g=some cs->L'.I g/\Ex L'.I w' cs g:=λg cs hg=>
 ⟨(hm g (hok.glob g cs hg).1).1,Ex.keep hm (hok.glob g cs hg).1 (hok.glob g cs hg).2⟩
theorem Jy {o:Obj} (hok:B1 P G L H w) (hw:w'.heap=w.heap.push o):Bh L w (L.grow w.heap.size) w' where
 keeps:=λb hb=>⟨hb,by rw[hw,Xp (hok.lt b hb),Xq (hok.lt b hb)]⟩
 nx:=Nat.le_succ _
 μ:=λb hb=>by simp only[Loc.grow];rw[zw (by omega)]
 size:=by rw[hw];simp
 shape:=λg hg arr ty fz he=>by
  rw[hw,Xp hg,<-Xq hg]at he;exact⟨arr,fz,he,rfl⟩
theorem OL {o:Obj} {r:Row} (hok:B1 P G L H w) (hout:BR w w') (hw:w'.heap=w.heap.push o) (hr:D0 P (L.grow w.heap.size) w' w.heap.size r) :
  B1 P G (L.grow w.heap.size) ((L.nx,r)::H) w'/\Bh L w (L.grow w.heap.size) w'/\Ext L H w (L.grow w.heap.size) ((L.nx,r)::H) w':=by
 have hm:=Jy hok hw
 have hsz:w'.heap.size=w.heap.size+1:=by rw[hw];simp
 have hold:∀g,g<w.heap.size->w'.heap[g]?=w.heap[g]?:=λg hg=>by
  rw[hw,Xp hg,Xq hg]
 have hμn:(L.grow w.heap.size).μ L.nx=w.heap.size:=by simp[Loc.grow]
 have hμo:∀b r,Aj H b=some r->(L.grow w.heap.size).μ b=L.μ b:=λb r hb=>hm.μ b (hok.nx b r hb)
 have cases':∀b r',Aj ((L.nx,r)::H) b=some r'->(b=L.nx/\r'=r)\/(b≠L.nx/\Aj H b=some r'):=by
  intro b r' hl;simp only[Aj]at hl;by_cases hb:L.nx=b
  .rw[zu hb]at hl;exact .inl ⟨hb.symm,by simpa using hl.symm⟩
  .rw[zw hb]at hl;exact .inr ⟨Ne.symm hb,hl⟩
 refine⟨⟨?_,?_,?_,?_,?_,DX hok hm.keeps⟩,hm,⟨by omega,λg hg _=>hold g hg,λg hg=>hg,λg hg=>.inl hg,?_,hm.shape,hout⟩⟩
 .intro b hb;have:=hok.lt b hb;omega
 .intro b r' hl;rcases cases' b r' hl with⟨rfl,rfl⟩ | ⟨_,hl'⟩
  .rw[hμn];exact hr
  .rw[hμo b r' hl'];exact(hok.rep b r' hl').keep hm (hold _ (hok.rep b r' hl').lt)
 .intro b r' hl hI;rcases cases' b r' hl with⟨rfl,rfl⟩ | ⟨_,hl'⟩
  .rw[hμn]at hI;have:=hok.lt _ hI;omega
  .rw[hμo b r' hl']at hI;exact hok.apart b r' hl' hI
 .intro b b' r1 r2 h1 h2 he;rcases cases' b r1 h1 with⟨rfl,rfl⟩ | ⟨hb,h1'⟩<;>rcases cases' b' r2 h2 with⟨rfl,rfl⟩ | ⟨hb',h2'⟩
  .rfl
  .rw[hμn,hμo b' r2 h2']at he;have:=(hok.rep b' r2 h2').lt;omega
  .rw[hμn,hμo b r1 h1']at he;have:=(hok.rep b r1 h1').lt;omega
  .rw[hμo b r1 h1',hμo b' r2 h2']at he;exact hok.inj b b' r1 r2 h1' h2' he
 .intro b r' hl;rcases cases' b r' hl with⟨rfl,rfl⟩ | ⟨_,hl'⟩
  .simp[Loc.grow]
  .have:=hok.nx b r' hl';simp only[Loc.grow];omega
 .rintro g ⟨b,r',hl,rfl⟩;rcases cases' b r' hl with⟨rfl,rfl⟩ | ⟨_,hl'⟩
  .left;rw[hμn];exact Xd _
  .right;exact⟨b,r',hl',(hμo b r' hl').symm⟩
theorem HO {b:Nat} {r0 r:Row} (hok:B1 P G L H w) (hout:BR w w') (hl:Aj H b=some r0) (hsize:w'.heap.size=w.heap.size)
  (hother:∀g,g≠L.μ b->w'.heap[g]?=w.heap[g]?) (hshape:BH w w') (hr:Bh L w L w'->D0 P L w' (L.μ b) r) :
  B1 P G L (upd H b r) w'/\Bh L w L w'/\Ext L H w L (upd H b r) w':=by
 have hm:Bh L w L w':=by
  refine⟨λg hg=>⟨hg,hother g (λe=>hok.apart b r0 hl (e▸hg))⟩,Xd _,λ_ _=>rfl,by omega,hshape⟩
 have cases':∀k r',Aj (upd H b r) k=some r'->(k=b/\r'=r)\/(k≠b/\Aj H k=some r'):=by
  intro k r' hk;rw[A7]at hk;by_cases e:k=b
  .rw[zu e,hl]at hk;exact .inl ⟨e,by simpa using hk.symm⟩
  .rw[zw e]at hk;exact .inr ⟨e,hk⟩
 have back:∀k r',Aj (upd H b r) k=some r'->∃r'',Aj H k=some r'':=by
  intro k r' hk;rcases cases' k r' hk with⟨rfl,_⟩ | ⟨_,h⟩
  .exact⟨r0,hl⟩
  .exact⟨r',h⟩
 refine⟨⟨?_,?_,?_,?_,?_,DX hok hm.keeps⟩,hm,⟨by omega,?_,λg hg=>hg,λg hg=>.inl hg,?_,hshape,hout⟩⟩
 .intro g hg;rw[hsize];exact hok.lt g hg
 .intro k r' hk;rcases cases' k r' hk with⟨rfl,rfl⟩ | ⟨hne,h⟩
  .exact hr hm
  .exact(hok.rep k r' h).keep hm (hother _ (λe=>hne (hok.inj k b r' r0 h hl e)))
 .intro k r' hk;obtain⟨r'',h⟩:=back k r' hk;exact hok.apart k r'' h
 .intro k k' r1 r2 h1 h2 he;obtain⟨r1',h1'⟩:=back k r1 h1;obtain⟨r2',h2'⟩:=back k' r2 h2;exact hok.inj k k' r1' r2' h1' h2' he
 .intro k r' hk;obtain⟨r'',h⟩:=back k r' hk;exact hok.nx k r'' h
 .intro g _ hmine;exact hother g (λe=>hmine ⟨b,r0,hl,e.symm⟩)
 .rintro g ⟨k,r',hk,rfl⟩;obtain⟨r'',h⟩:=back k r' hk;exact .inr ⟨k,r'',h,rfl⟩
theorem dJ (b:Nat) (hok:B1 P G L H w):B1 P G L (rem H b) w/\Ext L H w L (rem H b) w:=by
 have back:∀k r,Aj (rem H b) k=some r->Aj H k=some r:=by
  intro k r hk;rw[BZ]at hk;split at hk
  .cases hk
  .exact hk
 refine⟨⟨hok.lt,λk r hk=>hok.rep k r (back k r hk),λk r hk=>hok.apart k r (back k r hk),λk k' r r' h h'=>hok.inj k k' r r' (back k r h) (back k' r' h'),λk r hk=>hok.nx k r (back k r hk),hok.glob⟩,?_⟩;exact⟨Xd _,λ_ _ _=>rfl,λ_ h=>h,λ_ h=>.inl h,λg ⟨k,r,hk,e⟩=>.inr ⟨k,r,back k r hk,e⟩,BH.refl w,BR.refl w⟩
theorem RO {b:Nat} {r:Row} (hok:B1 P G L H w) (hl:Aj H b=some r) :
  B1 P G (L.grow (L.μ b)) ((L.nx,r)::rem H b) w/\Bh L w (L.grow (L.μ b)) w/\Ext L H w (L.grow (L.μ b)) ((L.nx,r)::rem H b) w:=by
 have hm:Bh L w (L.grow (L.μ b)) w:=⟨λg hg=>⟨hg,rfl⟩,Nat.le_succ _,λk hk=>by simp only[Loc.grow];rw[zw (by omega)],Xd _,BH.refl w⟩
 have hμn:(L.grow (L.μ b)).μ L.nx=L.μ b:=by simp[Loc.grow]
 have hμo:∀k r',Aj H k=some r'->(L.grow (L.μ b)).μ k=L.μ k:=λk r' hk=>hm.μ k (hok.nx k r' hk)
 have cases':∀k r',Aj ((L.nx,r)::rem H b) k=some r'->(k=L.nx/\r'=r)\/(k≠L.nx/\k≠b/\Aj H k=some r'):=by
  intro k r' hk;simp only[Aj]at hk;by_cases hb:L.nx=k
  .rw[zu hb]at hk;exact .inl ⟨hb.symm,by simpa using hk.symm⟩
  .rw[zw hb,BZ]at hk;split at hk
   .cases hk
   .rename_i hne;exact .inr ⟨Ne.symm hb,hne,hk⟩
 refine⟨⟨hok.lt,?_,?_,?_,?_,DX hok hm.keeps⟩,hm,⟨Xd _,λ_ _ _=>rfl,λ_ h=>h,λ_ h=>.inl h,?_,BH.refl w,BR.refl w⟩⟩
 .intro k r' hk;rcases cases' k r' hk with⟨rfl,rfl⟩ | ⟨_,_,h⟩
  .rw[hμn];exact(hok.rep b r' hl).keep hm rfl
  .rw[hμo k r' h];exact(hok.rep k r' h).keep hm rfl
 .intro k r' hk hI;rcases cases' k r' hk with⟨rfl,rfl⟩ | ⟨_,_,h⟩
  .rw[hμn]at hI;exact hok.apart b r' hl hI
  .rw[hμo k r' h]at hI;exact hok.apart k r' h hI
 .intro k k' r1 r2 h1 h2 he;rcases cases' k r1 h1 with⟨rfl,rfl⟩ | ⟨hb,hb2,h1'⟩<;>rcases cases' k' r2 h2 with⟨rfl,rfl⟩ | ⟨hb',hb2',h2'⟩
  .rfl
  .rw[hμn,hμo k' r2 h2']at he;exact absurd (hok.inj b k' _ _ hl h2' he).symm hb2'
  .rw[hμn,hμo k r1 h1']at he;exact absurd (hok.inj k b _ _ h1' hl he) hb2
  .rw[hμo k r1 h1',hμo k' r2 h2']at he;exact hok.inj k k' r1 r2 h1' h2' he
 .intro k r' hk;rcases cases' k r' hk with⟨rfl,rfl⟩ | ⟨_,_,h⟩
  .simp[Loc.grow]
  .have:=hok.nx k r' h;simp only[Loc.grow];omega
 .rintro g ⟨k,r',hk,rfl⟩;rcases cases' k r' hk with⟨rfl,rfl⟩ | ⟨_,_,h⟩
  .right;rw[hμn];exact⟨b,r',hl,rfl⟩
  .right;exact⟨k,r',h,(hμo k r' h).symm⟩
theorem B1.of_heap (hok:B1 P G L H w) (hout:BR w w') (hw:w'.heap=w.heap):B1 P G L H w'/\Bh L w L w'/\Ext L H w L H w':=by
 have hm:Bh L w L w':=⟨λg hg=>⟨hg,by rw[hw]⟩,Xd _,λ_ _=>rfl,by rw[hw];exact Xd _,λg _ arr ty fz he=>⟨arr,fz,by rw[<-hw];exact he,rfl⟩⟩
 refine⟨⟨λb hb=>by rw[hw];exact hok.lt b hb,λb r hb=>(hok.rep b r hb).keep hm (by rw[hw]),hok.apart,hok.inj,hok.nx,DX hok hm.keeps⟩,hm,?_⟩;exact⟨by rw[hw];exact Xd _,λg _ _=>by rw[hw],λ_ h=>h,λ_ h=>.inl h,λ_ h=>.inr h,hm.shape,hout⟩
end
def Bq:PV->Option (List PV)
 | .t (.ag cs)=>some (cs.map .t)
 | .ag cs=>some cs
 | .t (.tu _)=>none
 | .tu _=>none
 | .dead=>none
 | .t (.v x)=>if x.oneCell' then some [.t (.v x)]else none
 | p=>some [p]
theorem OM {P:Program} {L:Loc} {w:World} {p:PV} {ps:List PV} {v:Value} (h:Bq p=some ps) (hr:Aq P L w p v) :
  AJ P L w ps v.cells.toList/\∀x∈v.cells.toList,x.oneCell'=true:=by
 have one:∀p:PV,Aq P L w p v->v.oneCell'=true->AJ P L w [p] v.cells.toList/\∀x∈v.cells.toList,x.oneCell'=true:=by
  intro p hp h1
  have e:v.cells.toList=[v]:=by cases v<;>first | rfl | simp[Value.oneCell']at h1
  rw[e];exact⟨by simp only[AJ];exact⟨v,[],rfl,hp,rfl⟩,by simpa using h1⟩
 cases p with
 | t x=>
  cases x with
  | v x=>
   simp only[Bq]at h;split at h
   .rename_i h1;injection h with h;subst h;have hr':=hr;simp only[Aq,AA]at hr';subst hr';exact one _ hr h1
   .cases h
  | sl n cs=>simp only[Bq,Xc.injEq]at h;subst h;refine one _ hr ?_;simp only[Aq,AA]at hr;obtain⟨a,c,rfl,_⟩:=hr;rfl
  | ag cs=>
   simp only[Bq,Xc.injEq]at h;subst h;simp only[Aq,AA]at hr;obtain⟨us,rfl,h1,hl⟩:=hr;exact⟨AJ.ofT hl,h1⟩
  | tu cs=>simp only[Bq]at h;cases h
  | pt cs=>simp only[Bq,Xc.injEq]at h;subst h;refine one _ hr ?_;simp only[Aq,AA]at hr;obtain⟨b,o,rfl,_⟩:=hr;rfl
  | ic t x=>simp only[Bq,Xc.injEq]at h;subst h;refine one _ hr ?_;simp only[Aq,AA]at hr;obtain⟨y,rfl,_⟩:=hr;rfl
 | row b o n z=>simp only[Bq,Xc.injEq]at h;subst h;refine one _ hr ?_;simp only[Aq]at hr;obtain⟨_,_,c,rfl,_⟩:=hr;rfl
 | ptr b o=>simp only[Bq,Xc.injEq]at h;subst h;refine one _ hr ?_;simp only[Aq]at hr;obtain⟨_,rfl⟩:=hr;rfl
 | ag cs=>
  simp only[Bq,Xc.injEq]at h;subst h;simp only[Aq]at hr;obtain⟨us,rfl,h1,hl⟩:=hr;exact⟨hl,h1⟩
 | tu cs=>simp only[Bq]at h;cases h
 | fn f a b=>simp only[Bq,Xc.injEq]at h;subst h;refine one _ hr ?_;simp only[Aq]at hr;obtain⟨us,vs,rfl,_⟩:=hr;rfl
 | ic t x=>simp only[Bq,Xc.injEq]at h;subst h;refine one _ hr ?_;simp only[Aq]at hr;obtain⟨y,rfl,_⟩:=hr;rfl
 | mp b=>simp only[Bq,Xc.injEq]at h;subst h;refine one _ hr ?_;simp only[Aq]at hr;obtain⟨_,rfl⟩:=hr;rfl
 | dead=>simp only[Bq]at h;cases h
def Cj {α:Type} (cs:List α) (o:Nat) (ps:List α):List α:=
 match ps with
 | [p]=>cs.set o p
 | _=>cs.take o++ps++cs.drop (o+ps.length)
theorem MA {α:Type} {cs:List α} {o:Nat} {ps:List α} (h:o+ps.length<=cs.length):Cj cs o ps=cs.take o++ps++cs.drop (o+ps.length):=by
 unfold Cj;split
 .rename_i p;simp only[Xx,List.length_nil,Xr]at h ⊢;rw[List.set_eq_take_append_cons_drop,zu (by omega)];simp
 .rfl
theorem KM {α:Type} {cs:List α} {o:Nat} {ps:List α} (h:o+ps.length<=cs.length):(Cj cs o ps).length=cs.length:=by
 rw[MA h];simp;omega
theorem MD {P:Program} {L:Loc} {w:World} {cs ps:List PV} {arr:Array Value} {vs:List Value} {o:Nat} (hl:cs.length<=arr.size) (hfit:o+ps.length<=cs.length)
  (hc:∀(j:Nat) c,cs[j]?=some c->∃x,arr[j]?=some x/\x.oneCell'=true/\Aq P L w c x) (hp:AJ P L w ps vs) (h1:∀x∈vs,x.oneCell'=true) (j:Nat) (c:PV)
  (hj:(Cj cs o ps)[j]?=some c):∃x,(arr.toList.take o++vs++arr.toList.drop (o+vs.length)).toArray[j]?=some x/\x.oneCell'=true/\Aq P L w c x:=by
 have hlen:=hp.length;rw[MA hfit]at hj;simp only[Xk]
 have hto:(arr.toList.take o).length=o:=by simp;omega
 have hco:(cs.take o).length=o:=by simp;omega
 by_cases h:j<o
 .rw[Xs,Xh (by omega),Xl,zu h]at hj ⊢;obtain⟨x,hx,r⟩:=hc j c hj;exact⟨x,by simpa using hx,r⟩
 .by_cases h2:j<o+ps.length
  .rw[Xs,Xm (by omega),Xh (by omega)]at hj ⊢;rw[hco]at hj;rw[hto];obtain⟨x,hx,r⟩:=hp.at_ _ hj;exact⟨x,hx,h1 x (Xf hx),r⟩
  .rw[Xs,Xm (by omega),Xm (by omega),Xt]at hj ⊢;rw[hco]at hj;rw[hto]
   have e1:o+ps.length+(j-o-ps.length)=j:=by omega
   have e2:o+vs.length+(j-o-vs.length)=j:=by omega
   rw[e1]at hj;rw[e2];obtain⟨x,hx,r⟩:=hc j c hj;exact⟨x,by simpa using hx,r⟩
def J3 (P:Program) (H:Ak) (t:TypeId) (p x:PV):Option Ak:=
 match Ej P t,p,Bq x with
 | some (_,n),.ptr b o,some ps=>match Aj H b with
  | some (.cells ty cs)=>if ps.length=n/\o+ps.length<=cs.length then some (upd H b (.cells ty (Cj cs o ps)))else none
  | _=>none
 | _,_,_=>none
section
variable {P : Program} {G : AM} {B : Nat} {s : Am} {o : Oper}
theorem ME {w:World} {g:Nat} {arr arr':Array Value} {ty:TypeId} (hg:w.heap[g]?=some (.cells arr ty (0,0))) (hs:arr'.size=arr.size):BH w (w.setRow g arr'):=by
 intro k hk a t f he;by_cases e:k=g
 .subst e;rw[setRow_heap w k arr arr' ty (0,0) hg]at he;injection he with he;injection he with h1 h2 h3;subst h1;subst h2;exact⟨arr,(0,0),hg,hs.symm⟩
 .rw[setRow_other w g k arr' e]at he;exact⟨a,f,he,rfl⟩
theorem dK {t:TypeId} {x y:Operand} {H':Ak} (ho:o.op = .store t x y) (h:J3 P s.H t (s.ev G x) (s.ev G y)=some H'):AOp P G B o s (.t (.v undef)) H' s.nx:=λL a w hi=>by
 unfold J3 at h;split at h
 .rename_i b n p off ps hsh hp hcs;split at h
  .rename_i ty cs hl;split at h
   .rename_i hfit;obtain⟨hn,hfit⟩:=hfit;injection h with h;subst h;have hx:=hi.ev x;have hy:=hi.ev y;rw[hp]at hx;simp only[Aq]at hx;obtain⟨hb,hx⟩:=hx;obtain⟨hrep,h1⟩:=OM hcs hy;obtain⟨arr,harr,hle,hc⟩:=hi.heap.rep p _ hl;have hsz:=(FN hsh w).2;have hvl:=hrep.length;have hstore:=run_storeCells_at P (L.μ p) off ty (a.eval y).cells.toList 0 arr w harr (by omega) h1;simp only[Nat.add_zero]at hstore
    have hsize:(a.eval y).cells.size=n:=by rw[<-Xg,hvl,hn]
    unfold Oper.wp
    have hrun:(execOp a.eval o).run P w = .ok .skip (w.setRow (L.μ p) (arr.toList.take off++(a.eval y).cells.toList++arr.toList.drop (off+(a.eval y).cells.toList.length)).toArray):=by
     simp[execOp,ho,hx,Instr.storeAt,Instr.sureAddr,storeVar,hsz,hsize,hstore]
    rw[hrun,Oper.upon_skip]
    have hw:=HO (w':=w.setRow (L.μ p) (arr.toList.take off++(a.eval y).cells.toList++arr.toList.drop (off+(a.eval y).cells.toList.length)).toArray) (r:=.cells ty (Cj cs off ps)) hi.heap ⟨rfl,rfl,rfl⟩ hl (by simp)
     (λg hg=>setRow_other w _ g _ hg) (ME harr (by simp;omega))
     (λhm=>⟨_,setRow_heap w _ arr _ ty _ harr,by rw[KM hfit];simp;omega,λj c hj=>by
      obtain⟨z,hz,h1z,hr⟩:=MD hle hfit hc hrep h1 j c hj
      exact⟨z,hz,h1z,Aq.keep hm c hr⟩⟩)
    exact⟨undef,L,rfl,by simp only[Aq,AA],hw.1,hi.nx,hw.2.1,hw.2.2⟩
   .cases h
  .cases h
 .cases h
def Ey (P:Program) (t:TypeId):Option (TypeId×Nat×Nat×List Value):=
 match P.underlying t with
 | some (.slice e)=>match P.info? e with
  | some i=>match i.zero with
   | some z=>if z.cells.size=i.size/\0<i.size/\z.cells.toList.all (·.oneCell')then some (e,i.size,i.bytes,z.cells.toList)else none
   | none=>none
  | none=>none
 | _=>none
theorem KN {t e:TypeId} {n by':Nat} {zc:List Value} (h:Ey P t=some (e,n,by',zc)) :
  ∃i z,P.underlying t=some (.slice e)/\P.info? e=some i/\i.zero=some z/\i.size=n/\i.bytes=by'/\z.cells.toList=zc/\zc.length=n/\0<n/\∀x∈zc,x.oneCell'=true:=by
 unfold Ey at h;split at h
 .rename_i e' hu;split at h
  .rename_i i hi;split at h
   .rename_i z hz;split at h
    .rename_i hc;injection h with h;injection h with h1 h2;injection h2 with h2 h3;injection h3 with h3 h4;subst h1;subst h2;subst h3;subst h4;exact⟨i,z,hu,hi,hz,rfl,rfl,rfl,by simpa using hc.1,hc.2.1,Xu.1 hc.2.2⟩
    .cases h
   .cases h
  .cases h
 .cases h
def Gr (zc:List Value) (n:Nat):List PV:=
 match zc with
 | [z]=>List.replicate n (.t (.v z))
 | _=>(List.range (n*zc.length)).map λi=>.t (.v (zc.getD (i%zc.length) undef))
theorem MF (zc:List Value) (n:Nat):(Gr zc n).length=n*zc.length:=by
 unfold Gr;split<;>simp
theorem RP {zc:List Value} {n j:Nat} {c:PV} (h:(Gr zc n)[j]?=some c):j<n*zc.length/\c = .t (.v (zc.getD (j%zc.length) undef)):=by
 have hl:j<n*zc.length:=by rw[<-MF];exact(Xi.1 h).1
 refine⟨hl,?_⟩;unfold Gr at h;split at h
 .rename_i z;simp only[List.getElem?_replicate]at h;split at h
  .injection h with h;subst h;simp[Nat.mod_one]
  .cases h
 .simp only[Xn]at h;rw[Xy hl]at h;simpa using h.symm
theorem IA {r:PV} {row:Row} (h:∀L a w,Interp P G B L s a w->∃v w' ob,(execOp a.eval o).run P w = .ok (.value v) w'/\BR w w'/\w'.heap=w.heap.push ob /\
  (Bh L w (L.grow w.heap.size) w'->D0 P (L.grow w.heap.size) w' w.heap.size row/\Aq P (L.grow w.heap.size) w' r v)):AOp P G B o s r ((s.nx,row)::s.H) (s.nx+1):=λL a w hi=>by
 obtain⟨v,w',ob,hrun,hout,hw,hrest⟩:=h L a w hi;have hm:=Jy hi.heap hw;obtain⟨hrow,hr⟩:=hrest hm;have hn:=OL hi.heap hout hw hrow;unfold Oper.wp;rw[hrun,Oper.upon_value];rw[<-hi.nx];exact⟨v,_,rfl,hr,hn.1,rfl,hn.2.1,hn.2.2⟩
def J4 (P:Program) (t:TypeId) (l c:PV) (nx:Nat):Option (PV×Row):=
 match l,c,Ey P t with
 | .t (.v (.int _ l)),.t (.v (.int _ c)),some (e,n,by',zc)=>
  if 0<=l/\l<=c/\c<=9223372036854775807/\(by':Int)*c<=281474976710656 then some (.row nx 0 l.toNat n,.cells e (Gr zc l.toNat))else none
 | _,_,_=>none
theorem dL {t:TypeId} {x y:Operand} {r:PV} {row:Row} (ho:o.op = .makeSlice t x y) (h:J4 P t (s.ev G x) (s.ev G y) s.nx=some (r,row)):AOp P G B o s r ((s.nx,row)::s.H) (s.nx+1):=by
 refine IA λL a w hi=>?_;unfold J4 at h;split at h
 .rename_i k1 l k2 c e n by' zc hx hy he
  split at h
  .rename_i hb;obtain⟨h0,hlc,h63,hbytes⟩:=hb;injection h with h;injection h with h1 h2;subst h1;subst h2;obtain⟨i,z,hu,hi',hz,rfl,rfl,rfl,hzl,hpos,hone⟩:=KN he;have ex:=hi.ev x;have ey:=hi.ev y;rw[hx]at ex;rw[hy]at ey;simp only[Aq,AA]at ex ey;have hrun:=run_make (P:=P) w t e i z hu hi' hz k1 k2 l c h0 hlc hbytes h63;refine⟨_,_,_,by simp only[execOp,ho,ex,ey,Sem.run_bind,hrun,Xe];rfl,(show BR w (w.alloc _)from⟨rfl,rfl,rfl⟩),rfl,λhm=>?_⟩
   have hzs:z.cells.size=i.size:=by simpa using hzl
   have hle:l.toNat*i.size<=c.toNat*i.size:=Xz _ (by omega);refine⟨⟨madeCells z.cells (c.toNat*i.size),heap_alloc_new w _,by rw[MF,size_madeCells,hzl];exact hle,λj q hq=>?_⟩,?_⟩
   .obtain⟨hj,rfl⟩:=RP hq;rw[hzl]at hj
    have hjm:j%i.size<z.cells.size:=by rw[hzs];exact Xv _ hpos
    refine⟨z.cells[j%i.size],?_,hone _ (by simp),?_⟩
    .unfold madeCells;simp only[Array.getElem?_map];rw[Array.getElem?_range,zu (by omega)];simp only[Option.map_some,hzs,Xc.injEq];exact getElem!_pos z.cells _ hjm
    .simp only[Aq,AA,hzl];rw[X0];simp[hjm]
   .simp only[Aq];refine⟨by simp[Loc.grow,hi.nx],by simp[Loc.grow,hi.nx],c.toNat,by simp[Loc.grow,hi.nx],by omega,λarr ty fz hh=>?_⟩
    have e1:(L.grow w.heap.size).μ s.nx=w.heap.size:=by simp[Loc.grow,hi.nx]
    rw[e1,heap_alloc_new]at hh;injection hh with hh;injection hh with h1 h2;rw[<-h1,size_madeCells];omega
  .cases h
 .cases h
theorem RQ {L:Loc} {w w':World} {v:Value} {ps:List PV} {ty:TypeId} (hw:w'.heap=w.heap.push (.cells v.cells ty (0,0))) (hm:Bh L w (L.grow w.heap.size) w')
  (hrep:AJ P L w ps v.cells.toList) (h1:∀x∈v.cells.toList,x.oneCell'=true):D0 P (L.grow w.heap.size) w' w.heap.size (.cells ty ps):=by
 refine⟨v.cells,by rw[hw];simp,by rw[<-hrep.length];simp,λj c hj=>?_⟩;obtain⟨x,hx,hr⟩:=hrep.at_ j hj;exact⟨x,by simpa using hx,h1 x (Xf hx),Aq.keep hm c hr⟩
theorem dM {t:TypeId} {x:Operand} {ps:List PV} (ho:o.op = .box t x) (h:Bq (s.ev G x)=some ps):AOp P G B o s (.ptr s.nx 0) ((s.nx,.cells t ps)::s.H) (s.nx+1):=by
 refine IA λL a w hi=>?_;obtain⟨hrep,h1⟩:=OM h (hi.ev x);refine⟨.pointer (some ⟨w.heap.size,0,none⟩),w.alloc (.cells (a.eval x).cells t),_,by simp[execOp,ho,Instr.box,newVar,newRow],⟨rfl,rfl,rfl⟩,rfl,λhm=>⟨RQ rfl hm hrep h1,?_⟩⟩;simp only[Aq];exact⟨by simp[Loc.grow,hi.nx],by simp[Loc.grow,hi.nx]⟩
def FP (P:Program) (t:TypeId):Option (List Value):=
 match P.info? t with
 | some i=>match i.zero with
  | some z=>if z.cells.toList.all (·.oneCell')then some z.cells.toList else none
  | none=>none
 | none=>none
theorem RR {t:TypeId} {zc:List Value} (h:FP P t=some zc) (w:World):∃z,(zeroValue t).run P w = .ok z w/\z.cells.toList=zc/\∀x∈zc,x.oneCell'=true:=by
 unfold FP at h;split at h
 .rename_i i hi;split at h
  .rename_i z hz;split at h
   .rename_i h1;injection h with h;subst h;exact⟨z,by simp[zeroValue,typeInfo,hi,hz],rfl,Xu.1 h1⟩
   .cases h
  .cases h
 .cases h
theorem RS (P:Program) (L:Loc) (w:World) (us:List Value):AJ P L w (us.map λx=>.t (.v x)) us:=by
 have:=AJ.ofT (P:=P) (L:=L) (OC L.I w us);rw[List.map_map]at this;exact this
theorem dN {t:TypeId} {zc:List Value} (ho:o.op = .alloc t) (h:FP P t=some zc):AOp P G B o s (.ptr s.nx 0) ((s.nx,.cells t (zc.map λx=>.t (.v x)))::s.H) (s.nx+1):=by
 refine IA λL a w hi=>?_;obtain⟨z,hz,rfl,h1⟩:=RR h w;refine⟨.pointer (some ⟨w.heap.size,0,none⟩),w.alloc (.cells z.cells t),_,by simp[execOp,ho,Instr.alloc,newVar,newRow,hz],⟨rfl,rfl,rfl⟩,rfl,λhm=>⟨RQ rfl hm (RS P L w _) h1,?_⟩⟩;simp only[Aq];exact⟨by simp[Loc.grow,hi.nx],by simp[Loc.grow,hi.nx]⟩
def Ek (place:Nat->Option (Nat×Nat)) (cs:List PV):List (Nat×PV)->Option (List PV)
 | []=>some cs
 | (i,p)::rest=>match place i,Bq p with
  | some (off,size),some ps=>if ps.length=size/\off+ps.length<=cs.length then Ek place (Cj cs off ps) rest else none
  | _,_=>none
theorem RT (off:Nat):∀(l:List Value) (k:Nat) (cells:Array Value),off+k+l.length<=cells.size ->
  ((l.zipIdx k).foldl (λ(cs:Array Value) (p:Value×Nat)=>cs.setIfInBounds (off+p.2) p.1) cells).toList=cells.toList.take (off+k)++l++cells.toList.drop (off+k+l.length)
 | [],k,cells,_=>by simp
 | v::l,k,cells,h=>by
  simp only[Xx]at h;simp only[X1,List.foldl_cons];rw[RT off l (k+1) (cells.setIfInBounds (off+k) v) (by simp;omega)];rw[Array.toList_setIfInBounds];have:=list_seg_step cells.toList (off+k) v l (by simp;omega);rw[show off+(k+1)=off+k+1 by omega,this];simp[Nat.add_assoc,Nat.add_comm 1]
theorem ON {P:Program} {L:Loc} {w:World} {place:Nat->Option (Nat×Nat)}:∀(parts:List (Nat×PV)) (vals:List (Nat×Value)) (cs out:List PV) (arr:Array Value),
  vals.map Prod.fst=parts.map Prod.fst->(∀(j:Nat) p v,parts[j]?=some p->vals[j]?=some v->Aq P L w p.2 v.2)->AJ P L w cs arr.toList->(∀x∈arr.toList,x.oneCell'=true)->Ek place cs parts=some out ->
  ∃arr',Instr.fill place arr vals=some arr'/\AJ P L w out arr'.toList/\(∀x∈arr'.toList,x.oneCell'=true)
 | [],vals,cs,out,arr,he,_,hr,h1,h=>by
  have:vals=[]:=by simpa using he
  subst this;simp only[Ek,Xc.injEq]at h;subst h;exact⟨arr,rfl,hr,h1⟩
 | (i,p)::rest,[],cs,out,arr,he,_,hr,h1,h=>by simp at he
 | (i,p)::rest,(i',v)::vals,cs,out,arr,he,hp,hr,h1,h=>by
  simp only[X2,List.cons.injEq]at he;obtain⟨rfl,he⟩:=he;simp only[Ek]at h;split at h
  .rename_i off size ps hpl hps;split at h
   .rename_i hfit;obtain⟨hs,hfit⟩:=hfit;obtain⟨hrep,h1v⟩:=OM hps (hp 0 (i',p) (i',v) (by simp) (by simp));have hvl:=hrep.length;simp only[Xg]at hvl;have hal:=hr.length;simp only[Xg]at hal;simp only[Instr.fill,hpl]
    have hcond:(v.cells.size≠size||off+v.cells.size>arr.size)=false:=by
     simp only[hvl,hs,ne_eq,not_true_eq_false,decide_false,Bool.false_or,decide_eq_false_iff_not];omega
    rw[hcond];simp only[Bool.false_eq_true,if_false];have hfold:=RT off v.cells.toList 0 arr (by simp only[Xg];omega)
    have hfe:(v.cells.zipIdx.foldl (λ(cs:Array Value) (x:Value×Nat)=>cs.setIfInBounds (off+x.2) x.1) arr).toList=arr.toList.take off++v.cells.toList++arr.toList.drop (off+v.cells.toList.length):=by
     simp only[Nat.add_zero]at hfold;rw[<-hfold,<-Array.foldl_toList];simp
    refine ON rest vals (Cj cs off ps) out _ he (λj q u hq hu=>hp (j+1) q u (by simpa using hq) (by simpa using hu)) ?_ ?_ h
    .rw[hfe];refine AJ.mk ?_ λk c x hk hx=>?_
     .rw[KM hfit];simp;omega
     .obtain⟨y,hy,_,hry⟩:=MD (arr:=arr) (by omega) hfit (λj c hj=>by
       obtain⟨x,hx,hr'⟩:=hr.at_ j hj
       exact⟨x,by simpa using hx,h1 x (Xf hx),hr'⟩) hrep h1v k c hk
      simp only[Xk]at hy;rw[hy]at hx;injection hx with hx;subst hx;exact hry
    .rw[hfe];intro x hx;simp only[X3]at hx;rcases hx with(hx | hx) | hx
     .exact h1 x (X4 hx)
     .exact h1v x hx
     .exact h1 x (X5 hx)
   .cases h
  .cases h
def GP (P:Program) (t:TypeId) (len:Nat) (parts:List (Nat×PV)) (nx:Nat):Option (PV×Row):=
 match Ey P t with
 | some (e,n,_,zc)=>if len*n<=16777216 then(Ek (λi=>some (i*n,n)) (Gr zc len) parts).map λcs=>(.row nx 0 len n,.cells e cs)else none
 | none=>none
theorem dP {L:Loc} {w:World} {z:Value} {n:Nat} {size:Nat} (hz:z.cells.size=size) (h1:∀x∈z.cells.toList,x.oneCell'=true) :
  AJ P L w (Gr z.cells.toList n) (((Xj (n*size)).map (z.cells[· % z.cells.size]!)).toList)/\∀x∈(((Xj (n*size)).map (z.cells[· % z.cells.size]!)).toList),n*size=0\/0<size->x.oneCell'=true:=by
 have hat:∀(j:Nat) x,(((Xj (n*size)).map (z.cells[· % z.cells.size]!)).toList)[j]?=some x->j<n*size/\x=z.cells[j%z.cells.size]!:=by
  intro j x hx;simp only[X6,Array.toList_range,Xn]at hx
  cases hr:(List.range (n*size))[j]? with
  | none=>rw[hr]at hx;cases hx
  | some k=>
   rw[hr]at hx;have hjl:=(Xi.1 hr).1;simp only[List.length_range]at hjl;rw[Xy hjl]at hr;injection hr with hr;subst hr;exact⟨hjl,by simpa using hx.symm⟩
 refine⟨AJ.mk (by rw[MF];simp[hz]) λk c x hk hx=>?_,λx hx hpos=>?_⟩
 .obtain⟨hkl,rfl⟩:=RP hk;obtain⟨hj,rfl⟩:=hat k x hx;simp only[Aq,AA];simp only[Xg]at hkl
  have hp:0<z.cells.size:=by
   rcases Nat.eq_zero_or_pos z.cells.size with h0 | h0
   .rw[h0]at hkl;simp at hkl
   .exact h0
  have hm:k%z.cells.size<z.cells.size:=Xv _ hp;rw[getElem!_pos z.cells _ hm,X0];simp[hm]
 .obtain⟨j,hj⟩:=List.getElem?_of_mem hx;obtain⟨hjl,rfl⟩:=hat j x hj
  have hp:0<z.cells.size:=by
   rcases hpos with h | h
   .omega
   .omega
  have hm:j%z.cells.size<z.cells.size:=Xv _ hp;rw[getElem!_pos z.cells _ hm];exact h1 _ (by simp)
theorem RU {L:Loc} {a:Act} {w:World} (hi:Interp P G B L s a w) (parts:List (Nat×Operand)) :
  ((parts.map λp=>(p.1,a.eval p.2)).map Prod.fst=(parts.map λp=>(p.1,s.ev G p.2)).map Prod.fst) /\
  (∀(j:Nat) p v,(parts.map λp=>(p.1,s.ev G p.2))[j]?=some p->(parts.map λp=>(p.1,a.eval p.2))[j]?=some v->Aq P L w p.2 v.2):=by
 refine⟨by simp,λj p v hp hv=>?_⟩;simp only[Xn]at hp hv
 cases hq:parts[j]? with
 | none=>rw[hq]at hp;cases hp
 | some q=>
  rw[hq]at hp hv;injection hp with hp;injection hv with hv;subst hp;subst hv;exact hi.ev q.2
theorem RW {t:TypeId} {len:Nat} {parts:Array (Nat×Operand)} {r:PV} {row:Row} (ho:o.op = .buildSlice t len parts)
  (h:GP P t len (parts.toList.map λp=>(p.1,s.ev G p.2)) s.nx=some (r,row)) (L:Loc) (a:Act) (w:World) (hi:Interp P G B L s a w) :
  ∃v w' ob,(execOp a.eval o).run P w = .ok (.value v) w'/\BR w w'/\w'.heap=w.heap.push ob /\
  (Bh L w (L.grow w.heap.size) w'->D0 P (L.grow w.heap.size) w' w.heap.size row/\Aq P (L.grow w.heap.size) w' r v):=by
 unfold GP at h;split at h
 .rename_i e n by' zc he
  split at h
  .rename_i hsz;obtain⟨i,z,hu,hi',hz,rfl,rfl,rfl,hzl,hpos,hone⟩:=KN he
   cases hf:Ek (λk=>some (k*i.size,i.size)) (Gr z.cells.toList len) (parts.toList.map λp=>(p.1,s.ev G p.2))with
   | none=>rw[hf]at h;cases h
   | some cs=>
    rw[hf]at h;injection h with h;injection h with h1 h2;subst h1;subst h2
    have hzs:z.cells.size=i.size:=by simpa using hzl
    obtain⟨hp1,hp2⟩:=RU hi parts.toList;obtain⟨hz1,hz2⟩:=dP (P:=P) (L:=L) (w:=w) (n:=len) hzs hone;obtain⟨arr',hfill,hrep,h1'⟩:=ON _ _ _ _ _ hp1 hp2 hz1 (λx hx=>hz2 x hx (.inr hpos)) hf
    have hzero:(zeroValue e).run P w = .ok z w:=by simp[zeroValue,typeInfo,hi',hz]
    have hrun:(Instr.buildSlice t len (parts.map λ(k,x)=>(k,a.eval x))).run P w = .ok (.slice (some ⟨w.heap.size,0,none⟩) len len) (w.alloc (.cells arr' e)):=by
     have hpl:(parts.map λ(k,x)=>(k,a.eval x)).toList=parts.toList.map λp=>(p.1,a.eval p.2):=by simp
     simp only[Instr.buildSlice,Sem.run_bind,run_underlying hu,Xe,sizeOf,typeInfo,run_program,hi',Sem.run_pure];rw[zw (by omega)];by_cases h0:len*i.size=0
     .have hl0:len=0:=by
       rcases Nat.mul_eq_zero.1 h0 with h | h
       .exact h
       .omega
      subst hl0;simp only[Nat.zero_mul,if_true,Sem.run_pure,Sem.run_bind,Xe,hpl]
      have:(Xj 0).map (z.cells[· % z.cells.size]!)=(Xj 0).map ((#[]:Array Value)[· % (#[]:Array Value).size]!):=by simp
      simp only[Nat.zero_mul]at hfill;rw[this]at hfill;rw[hfill];simp[newRow]
     .simp only[zw h0,Sem.run_bind,hzero,Xe,Sem.run_pure,hpl,hfill];simp[newRow]
    refine⟨_,_,_,by simp only[execOp,ho,Sem.run_bind,hrun,Xe];rfl,(show BR w (w.alloc _)from⟨rfl,rfl,rfl⟩),rfl,λhm=>?_⟩;have hlen:=hrep.length;simp only[Xg]at hlen;refine⟨⟨arr',heap_alloc_new w _,by omega,λj c hj=>?_⟩,?_⟩
    .obtain⟨x,hx,hr⟩:=hrep.at_ j hj;exact⟨x,by simpa using hx,h1' x (Xf hx),Aq.keep hm c hr⟩
    .simp only[Aq];refine⟨by simp[Loc.grow,hi.nx],by simp[Loc.grow,hi.nx],len,by simp[Loc.grow,hi.nx],by omega,λarr ty fz hh=>?_⟩
     have e1:(L.grow w.heap.size).μ s.nx=w.heap.size:=by simp[Loc.grow,hi.nx]
     rw[e1,heap_alloc_new]at hh;injection hh with hh;injection hh with hh1 hh2;rw[<-hh1,hlen]
     have hfl:∀(parts:List (Nat×PV)) (cs out:List PV),Ek (λk=>some (k*i.size,i.size)) cs parts=some out->out.length=cs.length:=by
      intro parts
      induction parts with
      | nil=>intro cs out h;simp only[Ek,Xc.injEq]at h;rw[h]
      | cons p rest ih=>
       intro cs out h;obtain⟨k,p⟩:=p;simp only[Ek]at h;split at h
       .split at h
        .rename_i hfit;rw[ih _ _ h,KM hfit.2]
        .cases h
       .cases h
     rw[hfl _ _ _ hf,MF,hzl];omega
  .cases h
 .cases h
theorem dQ {t:TypeId} {len:Nat} {parts:Array (Nat×Operand)} {r:PV} {row:Row} (ho:o.op = .buildSlice t len parts)
  (h:GP P t len (parts.toList.map λp=>(p.1,s.ev G p.2)) s.nx=some (r,row)):AOp P G B o s r ((s.nx,row)::s.H) (s.nx+1):=
 IA (RW ho h)
theorem dR {len z ty:Nat} {ts:List T} (hl:ts.length=len*z) (h:∀L a w,Interp P G B L s a w->∃v w' ob,(execOp a.eval o).run P w = .ok (.value v) w'/\BR w w'/\w'.heap=w.heap.push ob /\
  (Bh L w (L.grow w.heap.size) w'->D0 P (L.grow w.heap.size) w' w.heap.size (.cells ty (ts.map .t))/\Aq P (L.grow w.heap.size) w' (.row s.nx 0 len z) v)):AOp P G B o s (.t (.sl len ts)) s.H s.nx:=λL a w hi=>by
 obtain⟨v,w',ob,hrun,hout,hw,hrest⟩:=h L a w hi;have hm:=Jy hi.heap hw;obtain⟨hrow,hr⟩:=hrest hm;unfold Oper.wp;rw[hrun,Oper.upon_value]
 have hold:∀g,g<w.heap.size->w'.heap[g]?=w.heap[g]?:=λg hg=>by rw[hw,Array.getElem?_push,zw (by omega)]
 let L':Loc:=⟨λg=>L.I g\/g=w.heap.size,L.μ,L.nx⟩
 have hm':Bh L w L' w':=⟨λb hb=>⟨.inl hb,hold b (hi.heap.lt b hb)⟩,Xd _,λ_ _=>rfl,hm.size,hm.shape⟩
 refine⟨v,L',rfl,?_,?_,hi.nx,hm',?_⟩
 .simp only[Aq]at hr;obtain⟨_,hlt,c,rfl,hc,_⟩:=hr
  have e1:(L.grow w.heap.size).μ s.nx=w.heap.size:=by simp[Loc.grow,hi.nx]
  simp only[Aq,AA];refine⟨_,c,rfl,hc,.inr ⟨rfl,by rw[e1];exact .inr rfl,Bs.mk λk t hk=>?_⟩⟩;obtain⟨arr,ha,hal,hcell⟩:=hrow;obtain⟨x,hx,h1,hrx⟩:=hcell k (.t t) (by simp[hk]);refine⟨x,?_,h1,?_⟩
  .rw[e1];simp[World.cell?,ha,hx]
  .simp only[Aq]at hrx;exact AA.keep (λb hb=>⟨.inl hb,rfl⟩) t hrx
 .refine⟨?_,λb r hb=>(hi.heap.rep b r hb).keep hm' (hold _ (hi.heap.rep b r hb).lt),λb r hb hI=>?_,hi.heap.inj,hi.heap.nx,DX hi.heap hm'.keeps⟩
  .rintro b (hb | rfl)
   .exact X7 (hi.heap.lt b hb) hm.size
   .rw[hw];simp
  .rcases hI with hI | hI
   .exact hi.heap.apart b r hb hI
   .have:=(hi.heap.rep b r hb).lt;have e:L'.μ b=L.μ b:=rfl;omega
 .refine⟨hm.size,λg hg _=>hold g hg,λ_ h=>.inl h,λg hg=>?_,λg h=>.inr h,hm.shape,hout⟩;rcases hg with hg | rfl
  .exact .inl hg
  .exact .inr (.inl (Xd _))
end
def CM (H:Ak) (z:Nat):PV->Option (Nat×List PV)
 | .t (.v (.slice none n _))=>if n=0 then some (0,[])else none
 | .t (.sl m cs)=>if cs.length=m*z then some (m,cs.map .t)else none
 | .row b o m z'=>match Aj H b with
  | some (.cells _ cs)=>if z'=z/\o+m*z<=cs.length then some (m,(cs.drop o).take (m*z))else none
  | _=>none
 | _=>none
section
variable {P : Program} {G : AM} {B : Nat} {s : Am} {o : Oper}
theorem RX {L:Loc} {H:Ak} {w:World} {z m:Nat} {p:PV} {ps:List PV} {u:Value} (hok:B1 P G L H w) (h:CM H z p=some (m,ps)) (hp:Aq P L w p u) :
  ∃A c xs,u = .slice A m c/\xs.length=m*z/\AJ P L w ps xs/\(∀x∈xs,x.oneCell'=true)/\(A=none->m=0)/\∀ad,A=some ad->∀(j:Nat) x,xs[j]?=some x->w.cell? (ad.add j)=some x:=by
 unfold CM at h;split at h
 .rename_i n c;split at h
  .rename_i hn;subst hn;injection h with h;injection h with h1 h2;subst h1;subst h2;simp only[Aq,AA]at hp;subst hp;exact⟨none,c,[],rfl,by simp,by simp only[AJ],by simp,λ_=>rfl,λ_ h=>by cases h⟩
  .cases h
 .rename_i m' cs;split at h
  .rename_i hl;injection h with h;injection h with h1 h2;subst h1;subst h2;simp only[Aq,AA]at hp;obtain⟨a,c,rfl,hc,hI⟩:=hp;rcases hI with⟨rfl,rfl⟩ | ⟨hsp,hb,hr⟩
   .exact⟨some a,c,[],rfl,by simp,by simp only[List.map_nil,AJ],by simp,(λh=>by cases h),λad e j x hx=>by simp at hx⟩
   obtain⟨b,o,sp⟩:=a;simp only at hsp hb hr;subst hsp;obtain⟨xs,hxl,hcell,h1,hrep⟩:=Bs.values hr;refine⟨some ⟨b,o,none⟩,c,xs,rfl,by omega,AJ.ofT hrep,h1,(λh=>by cases h),λad e j x hx=>?_⟩;injection e with e;subst e;rw[Addr.add_lit];exact hcell j x hx
  .cases h
 .rename_i b o m' z';split at h
  .rename_i ty cs hl;split at h
   .rename_i hc;obtain⟨rfl,hc⟩:=hc;injection h with h;injection h with h1 h2;subst h1;subst h2;simp only[Aq]at hp;obtain⟨hb,hm,c,rfl,hcap,_⟩:=hp;obtain⟨xs,hxl,hcell,h1,hrep⟩:=Jw (hok.rep b _ hl);refine⟨some ⟨L.μ b,o,none⟩,c,(xs.drop o).take (m'*z'),rfl,by simp;omega,hrep.drop_take o (m'*z'),λx hx=>h1 x (X5 (X4 hx)),(λh=>by cases h),λad e j x hx=>?_⟩;injection e with e;subst e;rw[Addr.add_lit];rw[Xl]at hx;split at hx
    .rw[Xt]at hx;exact hcell _ x hx
    .cases hx
   .cases h
  .cases h
 .cases h
theorem RY {α:Type} (b:Nat) (y:α):∀(H:List (Nat×α)),rem (upd H b y) b=rem H b
 | []=>rfl
 | (k,x)::r=>by
  by_cases hk:k=b
  .simp[upd,rem,hk]
  .simp[upd,rem,hk,RY b y r]
def J5 (P:Program) (H:Ak) (nx:Nat) (t:TypeId) (d x:PV):Option (PV×Ak×Nat):=
 match Ey P t with
 | some (e,z,by',_)=>match CM H z x with
  | some (m,ps)=>match d with
   | .t (.v (.slice none n c))=>if n=0/\c=0 then
     (if m=0 then some (d,H,nx)else if m*by'<=140737488355328/\m<=9223372036854775807 then some (.row nx 0 m z,(nx,.cells e ps)::H,nx+1)else none)else none
   | .row b o n z'=>match Aj H b with
    | some (.cells ty cs)=>
     if z'=z/\o=0/\ty=e/\cs.length=n*z/\(n+m)*by'<=140737488355328/\n+m<=9223372036854775807 then some (.row nx 0 (n+m) z,(nx,.cells e (cs++ps))::rem H b,nx+1)else none
    | _=>none
   | _=>none
  | none=>none
 | none=>none
theorem RZ {w:World} (t ty e:TypeId) (i:TypeInfo) (ht:P.underlying t=some (.slice e)) (hi:P.info? e=some i) (b:Option Addr) (sLen sCap c:Nat) (hroom:sLen<=sCap) :
  (Builtin.append_ #[t,t] ty #[.slice b sLen sCap,.slice none 0 c]).run P w = .ok (.slice b sLen sCap) w:=by
 cases b<;>simp[Builtin.append_,run_underlying ht,sizeOf,typeInfo,hi,Builtin.lenOf,hroom,Builtin.firstCells,storeCells]
theorem dS {L:Loc} {w:World} {cs ps:List PV} {xs ys:List Value} (h:AJ P L w cs xs) (h':AJ P L w ps ys):AJ P L w (cs++ps) (xs++ys):=by
 have hl:=h.length;refine AJ.mk (by simp[h.length,h'.length]) λk c x hk hx=>?_;by_cases hlt:k<cs.length
 .rw[Xh hlt]at hk;rw[Xh (by omega)]at hx;obtain⟨y,hy,hr⟩:=h.at_ k hk;rw[hy]at hx;injection hx with hx;subst hx;exact hr
 .rw[Xm (by omega)]at hk hx;rw[hl]at hx;obtain⟨y,hy,hr⟩:=h'.at_ _ hk;rw[hy]at hx;injection hx with hx;subst hx;exact hr
theorem OO {L L':Loc} {w w':World} {ty:TypeId} {g:Nat} {cs:List PV} {xs:List Value} {arr:Array Value} (hm:Bh L w L' w') (hg:w'.heap[g]?=some (.cells arr ty (0,0))) (hr:AJ P L w cs xs)
  (h1:∀x∈xs,x.oneCell'=true) (hpre:∀(j:Nat) x,xs[j]?=some x->arr[j]?=some x):D0 P L' w' g (.cells ty cs):=by
 refine⟨arr,hg,?_,λj c hj=>?_⟩
 .rw[<-hr.length];rcases Nat.lt_or_ge arr.size xs.length with hlt | hge
  .have h2:xs[arr.size]?=some xs[arr.size]:=Xw hlt;have:=hpre _ _ h2;simp at this
  .exact hge
 .obtain⟨x,hx,hrr⟩:=hr.at_ j hj;exact⟨x,hpre j x hx,h1 x (Xf hx),Aq.keep hm c hrr⟩
theorem dT {t:TypeId} {x y:Operand} {r:PV} {H':Ak} {nx':Nat} (ho:o.op = .call ⟨.builtin .append,#[x,y],#[t,t]⟩)
  (h:J5 P s.H s.nx t (s.ev G x) (s.ev G y)=some (r,H',nx')):AOp P G B o s r H' nx':=λL a w hi=>by
 unfold J5 at h;split at h
 .rename_i e z by' zc he
  obtain⟨i,zv,hu,hinf,hz,rfl,rfl,rfl,hzl,hpos,hone⟩:=KN he
  have hzs:zv.cells.size=i.size:=by simpa using hzl
  split at h
  .rename_i m ps hsrc;obtain⟨A,c,xs,hyv,hxl,hxr,hx1,hnone,hcell⟩:=RX hi.heap hsrc (hi.ev y);have hxe:=hi.ev x
   have run_of:∀{v w'},(Builtin.append_ #[t,t] o.type #[a.eval x,a.eval y]).run P w = .ok v w'->(execOp a.eval o).run P w = .ok (.value v) w':=by
    intro v w' hh;simp[execOp,ho,resolve,invoke,builtin,hh]
   split at h
   .rename_i n cap hd;split at h
    .rename_i hnc;obtain⟨rfl,rfl⟩:=hnc;rw[hd]at hxe;have hxe':=hxe;simp only[Aq,AA]at hxe';split at h
     .rename_i hm0;subst hm0;injection h with h;injection h with h1 h2;injection h2 with h2 h3;subst h1;subst h2;subst h3;unfold Oper.wp
      have:(Builtin.append_ #[t,t] o.type #[a.eval x,a.eval y]).run P w = .ok (.slice none 0 0) w:=by
       rw[hxe',hyv]
       cases A with
       | none=>exact RZ t o.type e i hu hinf none 0 0 c (Xd _)
       | some ad=>
        have hf:=run_firstCells_some (P:=P) w i.size 0 ad 0 c [] (by simp) (by simp);simp[Builtin.append_,run_underlying hu,sizeOf,typeInfo,hinf,Builtin.lenOf,hf]
      rw[run_of this,Oper.upon_value];refine⟨.slice none 0 0,L,rfl,by rw[hd];simp only[Aq,AA],hi.heap,hi.nx,Bh.refl _ _,Ext.refl _ _ _⟩
     .rename_i hm0;split at h
      .rename_i hb;injection h with h;injection h with h1 h2;injection h2 with h2 h3;subst h1;subst h2;subst h3
       cases A with
       | none=>exact absurd (hnone rfl) hm0
       | some ad=>
        have hrun:=run_append_nil (P:=P) w t o.type e i zv hu hinf hz ad m c xs hxl (hcell ad rfl) (by omega) (by omega) (by omega);rw[<-hxe',<-hyv]at hrun;unfold Oper.wp;rw[run_of hrun,Oper.upon_value];have hge:=grownCap_ge w m 0 e
        have hn:=OL (r:=.cells e ps) (w':=w.drew.alloc (.cells (xs.toArray++Builtin.zeroCells zv.cells (grownCap w m 0 e-m)) e)) (o:=.cells (xs.toArray++Builtin.zeroCells zv.cells (grownCap w m 0 e-m)) e) hi.heap ⟨rfl,rfl,rfl⟩ rfl
         (OO (Jy hi.heap rfl) (heap_alloc_new w.drew _) hxr hx1 (λj q hq=>by
          have hj:j<xs.length:=(Xi.1 hq).1;rw[X8 (by simpa using hj)]
          simpa using hq))
        rw[<-hi.nx];refine⟨_,_,rfl,?_,hn.1,rfl,hn.2.1,hn.2.2⟩;simp only[Aq]
        have e1:(L.grow w.heap.size).μ L.nx=w.heap.size:=by simp[Loc.grow]
        refine⟨by simp[Loc.grow],by rw[e1];simp,grownCap w m 0 e,by rw[e1],hge,λarr ty fz hh=>?_⟩;rw[e1,show w.heap.size=w.drew.heap.size from rfl,heap_alloc_new]at hh;injection hh with hh;injection hh with hh1 hh2;rw[<-hh1];simp only[X9,Ya,size_zeroCells,hzs,hxl];rw[<-Xo]
        have:m+(grownCap w m 0 e-m)=grownCap w m 0 e:=by omega
        rw[this];omega
      .cases h
    .cases h
   .rename_i b off n z' hd;split at h
    .rename_i ty cs hl;split at h
     .rename_i hc;obtain⟨rfl,rfl,rfl,hcl,hby,h63⟩:=hc;injection h with h;injection h with h1 h2;injection h2 with h2 h3;subst h1;subst h2;subst h3;rw[hd]at hxe;simp only[Aq]at hxe;obtain⟨hb,hμ,c0,hxv,hnc,hcap⟩:=hxe;obtain⟨olds,hol,hocell,ho1,horep⟩:=Jw (hi.heap.rep b _ hl);obtain⟨arr,harr,hle,hrow⟩:=hi.heap.rep b _ hl;have hcapA:=hcap arr _ _ harr;simp only[Xr]at hcapA;have hnew:=dS horep hxr
      have hnew1:∀q∈olds++xs,q.oneCell'=true:=by
       intro q hq;rcases X3.1 hq with hq | hq
       .exact ho1 q hq
       .exact hx1 q hq
      have e1:(L.grow (L.μ b)).μ L.nx=L.μ b:=by simp[Loc.grow]
      have rowrep:∀(w':World) (cap:Nat),w'.heap.size=w.heap.size->n+m<=cap->(∀arr ty fz,w'.heap[L.μ b]?=some (.cells arr ty fz)->cap*i.size<=arr.size) ->
        Aq P (L.grow (L.μ b)) w' (.row L.nx 0 (n+m) i.size) (.slice (some ⟨L.μ b,0,none⟩) (n+m) cap):=by
       intro w' cap hs hcc hh;simp only[Aq];refine⟨by simp[Loc.grow],by rw[e1,hs];exact hμ,cap,by rw[e1],hcc,λarr ty fz he=>?_⟩;rw[e1]at he;have:=hh arr ty fz he;omega
      rw[<-hi.nx];unfold Oper.wp
      cases A with
      | none=>
       have hm0:=hnone rfl;subst hm0;have hx0:xs=[]:=Yb (by simpa using hxl);subst hx0;have hp0:ps=[]:=Yb (by simpa using hxr.length.symm);subst hp0;have hrun:=RZ (P:=P) (w:=w) t o.type _ i hu hinf (some ⟨L.μ b,0,none⟩) n c0 c hnc;rw[<-hxv,<-hyv]at hrun;rw[run_of hrun,Oper.upon_value,hxv];have hmv:=RO hi.heap hl;rw[List.append_nil];exact⟨_,_,rfl,rowrep w c0 rfl hnc (λarr ty fz he=>by have:=hcap arr ty fz he;omega),hmv.1,rfl,hmv.2.1,hmv.2.2⟩
      | some ad=>
       by_cases hroom:n+m<=c0
       .have hfit:n*i.size+xs.length<=arr.size:=by
         rw[hxl,<-Xo];exact Nat.le_trans (Xz _ hroom) hcapA
        have hrun:=run_append_room (P:=P) w t o.type _ i hu hinf (L.μ b) n c0 arr harr ad m c xs hxl (hcell ad rfl) hx1 hroom hfit;rw[<-hxv,<-hyv]at hrun;rw[run_of hrun,Oper.upon_value]
        have hwr:=HO (w':=w.setRow (L.μ b) (arr.toList.take (n*i.size)++xs++arr.toList.drop (n*i.size+xs.length)).toArray) (r:=.cells ty (cs++ps)) hi.heap ⟨rfl,rfl,rfl⟩ hl (by simp)
         (λg hg=>setRow_other w _ g _ hg) (ME harr (by simp;omega))
         (λhm=>OO hm (setRow_heap w _ arr _ _ _ harr) hnew hnew1 (λj q hq=>by
          simp only[Xk];have hjl:j<(olds++xs).length:=(Xi.1 hq).1
          have holds:olds=arr.toList.take (n*i.size):=by
           apply List.ext_getElem?;intro k;rw[Xl];by_cases hk:k<n*i.size
           .rw[zu hk]
            have hk':k<olds.length:=by omega
            rw[Xw hk'];have:=hocell k _ (Xw hk');rw[cell_of_row w _ k arr _ _ harr]at this;simpa using this.symm
           .rw[zw hk,List.getElem?_eq_none (by omega)]
          rw[<-holds,Xh hjl]
          exact hq))
        have hmv:=RO hwr.1 (r:=.cells ty (cs++ps)) (b:=b) (by rw[A7,zu rfl,hl];rfl);rw[RY]at hmv;refine⟨_,_,rfl,rowrep _ c0 (by simp) hroom (λarr' ty' fz he=>?_),hmv.1,rfl,hwr.2.1.trans hmv.2.1,hwr.2.2.trans hmv.2.2⟩;rw[setRow_heap w _ arr _ _ _ harr]at he;injection he with he;injection he with he1 he2;rw[<-he1];simp;omega
       .have hrun:=run_append_grow (P:=P) w t o.type _ i zv hu hinf hz ⟨L.μ b,0,none⟩ n c0 olds (by omega) (λj q hq=>by rw[Addr.add_lit,Xr];exact hocell j q hq) ad m c xs hxl (hcell ad rfl) (by omega) (by omega) (growslice_fits (by omega) hby);rw[<-hxv,<-hyv]at hrun;rw[run_of hrun,Oper.upon_value];have hge:=grownCap_ge w (n+m) c0 ty;have hrm:=dJ b hi.heap
        have hn:=OL (r:=.cells ty (cs++ps)) (w':=w.drew.alloc (.cells (olds.toArray++xs.toArray++Builtin.zeroCells zv.cells (grownCap w (n+m) c0 ty-(n+m))) ty)) (o:=.cells (olds.toArray++xs.toArray++Builtin.zeroCells zv.cells (grownCap w (n+m) c0 ty-(n+m))) ty) hrm.1 ⟨rfl,rfl,rfl⟩ rfl
         (OO (Jy hi.heap rfl) (heap_alloc_new w.drew _) hnew hnew1 (λj q hq=>by
          have hj:j<(olds++xs).length:=(Xi.1 hq).1;rw[X8 (by simpa using hj)]
          simpa using hq))
        refine⟨_,_,rfl,?_,hn.1,rfl,hn.2.1,hrm.2.trans hn.2.2⟩;simp only[Aq]
        have e1:(L.grow w.heap.size).μ L.nx=w.heap.size:=by simp[Loc.grow]
        refine⟨by simp[Loc.grow],by rw[e1];simp,grownCap w (n+m) c0 ty,by rw[e1],hge,λarr ty' fz hh=>?_⟩;rw[e1,show w.heap.size=w.drew.heap.size from rfl,heap_alloc_new]at hh;injection hh with hh;injection hh with hh1 hh2;rw[<-hh1];simp only[X9,Ya,size_zeroCells,hzs,hxl,hol,hcl];rw[<-Xo,<-Xo]
        have:n+m+(grownCap w (n+m) c0 ty-(n+m))=grownCap w (n+m) c0 ty:=by omega
        rw[this];omega
     .cases h
    .cases h
   .cases h
  .cases h
 .cases h
end
def MG (P:Program) (t:TypeId):Option (Nat->Option (Nat×Nat)):=
 match P.underlying t with
 | some (.array _ e)=>(P.info? e).map λi=>λk=>some (k*i.size,i.size)
 | some (.struct fields)=>(fields.toList.mapM (λf=>(P.info? f.type).map λi=>(f.offset,i.size))).map λplaces=>λk=>places[k]?
 | _=>none
def J6 (P:Program) (t:TypeId) (parts:List (Nat×PV)):Option PV:=
 match MG P t,FP P t with
 | some place,some zc=>(Ek place (zc.map λx=>.t (.v x)) parts).map BI
 | _,_=>none
section
variable {P : Program} {G : AM} {B : Nat} {s : Am} {o : Oper}
theorem dU {t:TypeId} {parts:Array (Nat×Operand)} {r:PV} (ho:o.op = .build t parts) (h:J6 P t (parts.toList.map λp=>(p.1,s.ev G p.2))=some r):AOp P G B o s r s.H s.nx:=by
 refine Fm λL a w hi=>?_;unfold J6 at h;split at h
 .rename_i place zc hpl hzc
  cases hf:Ek place (zc.map λx=>.t (.v x)) (parts.toList.map λp=>(p.1,s.ev G p.2))with
  | none=>rw[hf]at h;cases h
  | some cs=>
   rw[hf]at h;injection h with h;subst h;unfold FP at hzc;split at hzc
   .rename_i it hit;split at hzc
    .rename_i z hz;split at hzc
     .rename_i h1;injection hzc with hzc;subst hzc;obtain⟨hp1,hp2⟩:=RU hi parts.toList;obtain⟨arr,hfill,hrep,h1'⟩:=ON (L:=L) (w:=w) _ _ _ _ z.cells hp1 hp2 (RS P L w _) (Xu.1 h1) hf
      have hpl2:(parts.map λ(k,x)=>(k,a.eval x)).toList=parts.toList.map λp=>(p.1,a.eval p.2):=by simp
      have hb:P.built t (parts.map λ(k,x)=>(k,a.eval x)).toList=some arr:=by
       unfold Program.built;unfold MG at hpl;rw[hpl2];split at hpl
       .rename_i n e hu
        cases hie:P.info? e with
        | none=>rw[hie]at hpl;cases hpl
        | some ie=>
         rw[hie]at hpl;injection hpl with hpl;subst hpl;simp only[hit,hu,hz,hie,hfill]
       .rename_i fields hu
        cases hm:fields.toList.mapM (λf=>(P.info? f.type).map λi=>(f.offset,i.size))with
        | none=>rw[hm]at hpl;cases hpl
        | some places=>
         rw[hm]at hpl;injection hpl with hpl;subst hpl;simp only[hit,hu,hz,hm,Xk,hfill]
       .cases hpl
      have hrun:=run_build (P:=P) w t _ arr hb;refine⟨.agg arr,?_,OG h1' hrep⟩;simp only[execOp,ho,Sem.run_bind,hrun,Xe];rfl
     .cases hzc
    .cases hzc
   .cases hzc
 .cases h
def opV (P:Program) (H:Ak) (nx:Nat) (ev:Operand->PV) (o:Op):Option (PV×Ak×Nat):=
 match o with
 | .store t a x=>(J3 P H t (ev a) (ev x)).map λH'=>(.t (.v undef),H',nx)
 | .makeSlice t l c=>(J4 P t (ev l) (ev c) nx).map λq=>(q.1,(nx,q.2)::H,nx+1)
 | .buildSlice t len parts=>(GP P t len (parts.toList.map λp=>(p.1,ev p.2)) nx).map λq=>(q.1,(nx,q.2)::H,nx+1)
 | .build t parts=>(J6 P t (parts.toList.map λp=>(p.1,ev p.2))).map λr=>(r,H,nx)
 | .box t x=>(Bq (ev x)).map λps=>(.ptr nx 0,(nx,.cells t ps)::H,nx+1)
 | .alloc t=>(FP P t).map λzc=>(.ptr nx 0,(nx,.cells t (zc.map λx=>.t (.v x)))::H,nx+1)
 | .call ⟨.builtin .append,⟨[x,y]⟩,⟨[t,t']⟩⟩=>if t=t' then J5 P H nx t (ev x) (ev y)else none
 | o=>(CT P H ev o).map λr=>(r,H,nx)
theorem dV {r:PV} {H':Ak} {nx':Nat} (h:opV P s.H s.nx (s.ev G) o.op=some (r,H',nx')):AOp P G B o s r H' nx':=by
 unfold opV at h;split at h
 .rename_i t x y ho
  cases hs:J3 P s.H t (s.ev G x) (s.ev G y)with
  | none=>rw[hs]at h;cases h
  | some H1=>
   rw[hs]at h;injection h with h;injection h with h1 h2;injection h2 with h2 h3;subst h1;subst h2;subst h3;exact dK ho hs
 .rename_i t x y ho
  cases hs:J4 P t (s.ev G x) (s.ev G y) s.nx with
  | none=>rw[hs]at h;cases h
  | some q=>
   rw[hs]at h;injection h with h;injection h with h1 h2;injection h2 with h2 h3;subst h1;subst h2;subst h3;exact dL ho hs
 .rename_i t len parts ho
  cases hs:GP P t len (parts.toList.map λp=>(p.1,s.ev G p.2)) s.nx with
  | none=>rw[hs]at h;cases h
  | some q=>
   rw[hs]at h;injection h with h;injection h with h1 h2;injection h2 with h2 h3;subst h1;subst h2;subst h3;exact dQ ho hs
 .rename_i t parts ho
  cases hs:J6 P t (parts.toList.map λp=>(p.1,s.ev G p.2))with
  | none=>rw[hs]at h;cases h
  | some q=>
   rw[hs]at h;injection h with h;injection h with h1 h2;injection h2 with h2 h3;subst h1;subst h2;subst h3;exact dU ho hs
 .rename_i t x ho
  cases hs:Bq (s.ev G x)with
  | none=>rw[hs]at h;cases h
  | some q=>
   rw[hs]at h;injection h with h;injection h with h1 h2;injection h2 with h2 h3;subst h1;subst h2;subst h3;exact dM ho hs
 .rename_i t ho
  cases hs:FP P t with
  | none=>rw[hs]at h;cases h
  | some q=>
   rw[hs]at h;injection h with h;injection h with h1 h2;injection h2 with h2 h3;subst h1;subst h2;subst h3;exact dN ho hs
 .rename_i x y t t' ho;split at h
  .rename_i e;subst e;exact dT ho h
  .cases h
 .cases hs:CT P s.H (s.ev G) o.op with
  | none=>rw[hs]at h;cases h
  | some q=>
   rw[hs]at h;injection h with h;injection h with h1 h2;injection h2 with h2 h3;subst h1;subst h2;subst h3;exact dI hs
end
def KO (P:Program) (f:FuncId):Prop:=∃fn c,P.funcs[f]?=some fn/\fn.body=some c/\(fn.name == "runtime.NumGoroutine")=false
theorem KO.run {P:Program} {f:FuncId} (h:KO P f) (args:Array Value) (w:World):(callFunc f args).run P w = .ok (.enter f args) w:=by
 obtain⟨fn,c,hf,hb,hn⟩:=h
 have hn':¬fn.name = "runtime.NumGoroutine":=by simpa using hn
 simp[callFunc,hf,hn',hb]
def Bc (P:Program) (G:AM) (f:FuncId) (args:List T) (R:T->Prop):Prop:=
 KO P f/\∀(I:Nat->Prop) (w:World) (us:Array Value),(∀b,I b->b<w.heap.size)->(∀g cs,Aj G g=some cs->I g/\Ex I w cs g)->AX I w args us.toList ->
  Calls P f us w λe w'=>∃v r I',e = .returned v/\R r/\AA I' w' r v/\BR w w'/\w.heap.size<=w'.heap.size/\(∀g,g<w.heap.size->w'.heap[g]?=w.heap[g]?) /\
   (∀g,I g->I' g)/\(∀g,I' g->I g\/w.heap.size<=g)/\(∀g,I' g->g<w'.heap.size)
theorem Bc.mono {P:Program} {G:AM} {f:FuncId} {args:List T} {R R':T->Prop} (h:Bc P G f args R) (hr:∀r,R r->R' r):Bc P G f args R':=
 ⟨h.1,λI w us h1 h2 h3=>(h.2 I w us h1 h2 h3).mono λ_ _ ⟨v,r,I',he,hR,rest⟩=>⟨v,r,I',he,hr r hR,rest⟩⟩
mutual
@[simp] def toT (H:Ak):PV->Option (T×List Nat)
 | .t x=>some (x,[])
 | .row b o n z=>match Aj H b with
  | some (.cells _ cs)=>if o+n*z<=cs.length then(DW ((cs.drop o).take (n*z))).map λts=>(.sl n ts,[b])else none
  | _=>none
 | .ag cs=>(Bn H cs).map λq=>(.ag q.1,q.2)
 | .tu cs=>(Bn H cs).map λq=>(.tu q.1,q.2)
 | _=>none
@[simp] def Bn (H:Ak):List PV->Option (List T×List Nat)
 | []=>some ([],[])
 | p::ps=>match toT H p,Bn H ps with
  | some (x,F),some (xs,F')=>some (x::xs,F++F')
  | _,_=>none
end
def GQ (L:Loc) (H:Ak) (F:List Nat) (g:Nat):Prop:=∃b∈F,(∃r,Aj H b=some r)/\L.μ b=g
section
variable {P : Program} {G : AM} {L : Loc} {H : Ak} {w : World}
theorem Bs.ofRow {I:Nat->Prop} {g:Nat} {ts:List T}:∀{o:Nat} {xs:List Value},(∀(j:Nat) x,xs[j]?=some x->w.cell? ⟨g,o+j,none⟩=some x/\x.oneCell'=true)->AX I w ts xs->Bs I w ts g o:=by
 intro o xs hc hr;refine Bs.mk λk c hk=>?_;obtain⟨x,hx,h⟩:=hr.at_ k hk;exact⟨x,(hc k x hx).1,(hc k x hx).2,h⟩
theorem MH {I I':Nat->Prop} (h:∀g,I g->I' g):Gk I I' w w:=λb hb=>⟨h b hb,rfl⟩
mutual
theorem OP (hok:B1 P G L H w):∀(p:PV) {x:T} {F:List Nat} {u:Value},toT H p=some (x,F)->Aq P L w p u->∀F',(∀b∈F,b∈F')->AA (λg=>L.I g\/GQ L H F' g) w x u
 | .t x,y,F,u,h,hr,F',_=>by
  simp only[toT,Xc.injEq,Prod.mk.injEq]at h;obtain⟨rfl,rfl⟩:=h;simp only[Aq]at hr;exact AA.keep (MH λg hg=>.inl hg) _ hr
 | .row b o n z,y,F,u,h,hr,F',hF=>by
  simp only[toT]at h;split at h
  .rename_i ty cs hl;split at h
   .rename_i hb
    cases ha:DW ((cs.drop o).take (n*z))with
    | none=>rw[ha]at h;cases h
    | some ts=>
     rw[ha]at h;injection h with h;injection h with h1 h2;subst h1;subst h2;simp only[Aq]at hr;obtain⟨hb',hμ,c,rfl,hc,_⟩:=hr;obtain⟨xs,hxl,hcell,h1,hrep⟩:=Jw (hok.rep b _ hl);have hseg:=hrep.drop_take o (n*z);rw[Jv ha]at hseg;have hT:=hseg.toT;simp only[AA];refine⟨⟨L.μ b,o,none⟩,c,rfl,hc,.inr ⟨rfl,.inr ⟨b,hF b (by simp),⟨_,hl⟩,rfl⟩,?_⟩⟩;have hT':=AX.keep (MH (I:=L.I) (I':=λg=>L.I g\/GQ L H F' g) (w:=w) λg hg=>.inl hg) ts hT;refine Bs.ofRow (xs:=(xs.drop o).take (n*z)) (λj x hx=>?_) hT';rw[Xl]at hx;split at hx
     .rw[Xt]at hx;exact⟨hcell _ x hx,h1 x (Xf hx)⟩
     .cases hx
   .cases h
  .cases h
 | .ag cs,y,F,u,h,hr,F',hF=>by
  simp only[toT]at h
  cases hq:Bn H cs with
  | none=>rw[hq]at h;cases h
  | some q=>
   rw[hq]at h;injection h with h;injection h with h1 h2;subst h1;subst h2;simp only[Aq]at hr;obtain⟨us,rfl,h1,hl⟩:=hr;simp only[AA];exact⟨us,rfl,h1,KP hok cs hq hl F' hF⟩
 | .tu cs,y,F,u,h,hr,F',hF=>by
  simp only[toT]at h
  cases hq:Bn H cs with
  | none=>rw[hq]at h;cases h
  | some q=>
   rw[hq]at h;injection h with h;injection h with h1 h2;subst h1;subst h2;simp only[Aq]at hr;obtain⟨us,rfl,hl⟩:=hr;simp only[AA];exact⟨us,rfl,KP hok cs hq hl F' hF⟩
 | .ptr _ _,_,_,_,h,_,_,_=>by simp[toT]at h
 | .fn _ _ _,_,_,_,h,_,_,_=>by simp[toT]at h
 | .ic _ _,_,_,_,h,_,_,_=>by simp[toT]at h
 | .mp _,_,_,_,h,_,_,_=>by simp[toT]at h
 | .dead,_,_,_,h,_,_,_=>by simp[toT]at h
theorem KP (hok:B1 P G L H w):∀(ps:List PV) {q:List T×List Nat} {us:List Value},Bn H ps=some q->AJ P L w ps us->∀F',(∀b∈q.2,b∈F')->AX (λg=>L.I g\/GQ L H F' g) w q.1 us
 | [],q,us,h,hr,F',_=>by
  simp only[Bn,Xc.injEq]at h;subst h;simp only[AJ]at hr;simp only[AX];exact hr
 | p::ps,q,us,h,hr,F',hF=>by
  simp only[Bn]at h;split at h
  .rename_i x F xs F2 hx hxs;injection h with h;subst h;simp only[AJ]at hr;obtain⟨u,us',rfl,h1,h2⟩:=hr;simp only[AX];exact⟨u,us',rfl,OP hok p hx h1 F' (λb hb=>hF b (by simp[hb])),KP hok ps hxs h2 F' (λb hb=>hF b (by simp[hb]))⟩
  .cases h
end
@[simp] def Ez (H:Ak) (F:List Nat):Ak:=F.foldl rem H
theorem DY:∀(F:List Nat) (H:Ak) (k:Nat) (r:Row),Aj (Ez H F) k=some r->Aj H k=some r/\k∉F
 | [],H,k,r,h=>⟨h,by simp⟩
 | b::F,H,k,r,h=>by
  have h':Aj (Ez (rem H b) F) k=some r:=h;obtain⟨h1,h2⟩:=DY F (rem H b) k r h';rw[BZ]at h1;split at h1
  .cases h1
  .rename_i hne;exact⟨h1,by simp[hne,h2]⟩
def De:T->Bool
 | .v _=>true
 | .tu [.v _,.v _]=>true
 | _=>false
theorem Si {I I':Nat->Prop} {w w':World} {x:T} {u:Value} (h:De x=true) (hr:AA I w x u):AA I' w' x u:=by
 cases x with
 | v x=>simpa only[AA]using hr
 | tu cs=>
  cases cs with
  | nil=>simp[De]at h
  | cons a cs=>cases cs with
   | nil=>cases a<;>simp[De]at h
   | cons b cs=>cases cs with
    | nil=>cases a<;>cases b<;>first | (simp[De]at h;done) | (simp only[AA,AX]at hr ⊢;exact hr)
    | cons c cs=>cases a<;>simp[De]at h
 | _=>simp[De]at h
theorem dW {B:Nat} {s:Am} {o:Oper} {f:FuncId} {args:Array Operand} {ts:Array TypeId} {targs:List T} {F:List Nat} {r:T} (ho:o.op = .call ⟨.value (.func f),args,ts⟩)
  (hT:Bn s.H (args.toList.map (s.ev G))=some (targs,F)) (hc:Bc P G f targs (· = r)) :
  AOp P G B o s (.t r) (if De r then s.H else Ez s.H F) s.nx:=λL a w hi=>by
 have hargs:AJ P L w (args.toList.map (s.ev G)) (args.map a.eval).toList:=by
  refine AJ.mk (by simp) λk c x hk hx=>?_;simp only[Xn,X6]at hk hx
  cases ha:args.toList[k]? with
  | none=>rw[ha]at hk;cases hk
  | some q=>
   rw[ha]at hk hx;injection hk with hk;injection hx with hx;subst hk;subst hx;exact hi.ev q
 have hrep:=KP hi.heap _ hT hargs F (λb hb=>hb);unfold Oper.wp
 have hrun:(execOp a.eval o).run P w = .ok (.enter f (args.map a.eval)) w:=by
  simp[execOp,ho,resolve,Act.eval,Deferred.ofValue,invoke,hc.1.run]
 rw[hrun,Oper.upon_enter]
 have hlt:∀b,(L.I b\/GQ L s.H F b)->b<w.heap.size:=by
  rintro b (h | ⟨k,_,⟨r,hr⟩,rfl⟩)
  .exact hi.heap.lt b h
  .exact(hi.heap.rep k r hr).lt
 refine(hc.2 _ w _ hlt (λg cs hg=>⟨.inl (hi.heap.glob g cs hg).1,Ex.keep (MH λg hg=>.inl hg) (hi.heap.glob g cs hg).1 (hi.heap.glob g cs hg).2⟩) hrep).mono ?_;rintro e w' ⟨v,r',I',rfl,rfl,hv,hout,hsz,hsame,hmore,hnew,hltI⟩
 have hshape:BH w w':=λg hg arr ty fz he=>⟨arr,fz,by rw[<-hsame g hg];exact he,rfl⟩
 by_cases hp:De r'=true
 .rw[zu hp]
  have hm:Bh L w L w':=⟨λb hb=>⟨hb,hsame b (hi.heap.lt b hb)⟩,Xd _,λ_ _=>rfl,hsz,hshape⟩
  refine⟨v,L,rfl,by simp only[Aq];exact Si hp hv,?_,hi.nx,hm,?_⟩
  .exact⟨λb hb=>X7 (hi.heap.lt b hb) hsz,λb r hb=>(hi.heap.rep b r hb).keep hm (hsame _ (hi.heap.rep b r hb).lt),hi.heap.apart,hi.heap.inj,hi.heap.nx,DX hi.heap hm.keeps⟩
  .exact⟨hsz,λg hg _=>hsame g hg,λ_ h=>h,λ_ h=>.inl h,λ_ h=>.inr h,hshape,hout⟩
 .rw[zw hp]
  have hm:Bh L w { L with I:=I' } w':=⟨λb hb=>⟨hmore b (.inl hb),hsame b (hi.heap.lt b hb)⟩,Xd _,λ_ _=>rfl,hsz,hshape⟩
  refine⟨v,{ L with I:=I' },rfl,by simp only[Aq];exact hv,?_,hi.nx,hm,?_⟩
  .refine⟨hltI,λb r hb=>?_,λb r hb hI=>?_,λb b' r r' hb hb'=>?_,λb r hb=>?_,DX hi.heap hm.keeps⟩
   .have hb':=(DY F s.H b r hb).1;exact(hi.heap.rep b r hb').keep hm (hsame _ (hi.heap.rep b r hb').lt)
   .obtain⟨hb',hnF⟩:=DY F s.H b r hb;rcases hnew _ hI with(h | ⟨k,hk,⟨r2,hr2⟩,e⟩) | h
    .exact hi.heap.apart b r hb' h
    .exact hnF ((hi.heap.inj k b r2 r hr2 hb' e)▸hk)
    .have:=(hi.heap.rep b r hb').lt;exact absurd this (by have h':w.heap.size<=L.μ b:=h;omega)
   .exact hi.heap.inj b b' r r' (DY F s.H b r hb).1 (DY F s.H b' r' hb').1
   .exact hi.heap.nx b r (DY F s.H b r hb).1
  .refine⟨hsz,λg hg _=>hsame g hg,λg h=>hmore g (.inl h),λg h=>?_,λg ⟨k,r,hk,e⟩=>.inr ⟨k,r,(DY F s.H k r hk).1,e⟩,hshape,hout⟩;rcases hnew g h with(h | ⟨k,_,⟨r2,hr2⟩,e⟩) | h
   .exact .inl h
   .exact .inr (.inr ⟨k,r2,hr2,e⟩)
   .exact .inr (.inl h)
end
def Fo (P:Program) (s:Am):List ResultVar->Option (List PV)
 | []=>some []
 | .tmp t::r=>match Aj s.env t,Fo P s r with
  | some p,some ps=>some (p::ps)
  | _,_=>none
 | .cell a t::r=>match Aj s.env a,Fo P s r with
  | some (.ptr b o),some ps=>(I6 P s.H t (.ptr b o)).map (· :: ps)
  | _,_=>none
def J7 (P:Program) (fn:Func) (s:Am):Option PV:=
 match Fo P s fn.results.toList with
 | some [p]=>some p
 | some ps=>some (match DW ps with | some ts=>.t (.tu ts) | none=>.tu ps)
 | none=>none
section
variable {P : Program} {G : AM} {B : Nat} {L : Loc} {s : Am} {a : Act} {w : World}
def KQ (tmps:Array Value):ResultVar->Sem Value
 | .tmp t=>pure (tmps.getD t undef)
 | .cell a t=>do loadVar t (<-asAddr (tmps.getD a undef))
theorem dX (fn:Func) (tmps:Array Value):results fn tmps=(do let vs <-fn.results.mapM (KQ tmps);pure (if h:vs.size=1 then vs[0]else .tuple vs)):=by
 unfold results;congr 2
theorem OQ (hi:Interp P G B L s a w):∀(rs:List ResultVar) {ps:List PV},Fo P s rs=some ps ->
  ∃vs:List Value,(rs.mapM (KQ a.tmps)).run P w = .ok vs w/\AJ P L w ps vs
 | [],ps,h=>by
  simp only[Fo,Xc.injEq]at h;subst h;exact⟨[],by simp,by simp only[AJ]⟩
 | .tmp t::r,ps,h=>by
  simp only[Fo]at h;split at h
  .rename_i p ps' hl hr;injection h with h;subst h;obtain⟨vs,hrun,hrep⟩:=OQ hi r hr;refine⟨a.tmps.getD t undef::vs,?_,by simp only[AJ];exact⟨_,_,rfl,hi.env t p hl,hrep⟩⟩;rw[Yc];simp only[KQ,Sem.run_bind,Sem.run_pure,Xe,hrun]
  .cases h
 | .cell x t::r,ps,h=>by
  simp only[Fo]at h;split at h
  .rename_i b o ps' hl hr
   cases hv:I6 P s.H t (.ptr b o)with
   | none=>rw[hv]at h;cases h
   | some q=>
    rw[hv]at h;injection h with h;subst h;obtain⟨vs,hrun,hrep⟩:=OQ hi r hr;have hx:=hi.env x _ hl;obtain⟨v,hload,hvr⟩:=RG hi.heap hv hx;have hx':=hx;simp only[Aq]at hx';refine⟨v::vs,?_,by simp only[AJ];exact⟨_,_,rfl,hvr,hrep⟩⟩;rw[Yc]
    have hload':(KQ a.tmps (.cell x t)).run P w = .ok v w:=by
     rw[hx'.2]at hload;simp only[KQ,hx'.2,asAddr];simpa[Instr.loadAt,Instr.sureAddr]using hload
    simp only[Sem.run_bind,hload',Xe,hrun,Sem.run_pure]
  .cases h
theorem Sj {fn:Func} {p:PV} (hi:Interp P G B L s a w) (h:J7 P fn s=some p):∃v,(results fn a.tmps).run P w = .ok v w/\Aq P L w p v:=by
 unfold J7 at h
 have key:∀{ps},Fo P s fn.results.toList=some ps->∃vs:Array Value,(results fn a.tmps).run P w = .ok (if h:vs.size=1 then vs[0]else .tuple vs) w/\AJ P L w ps vs.toList:=by
  intro ps hps;obtain⟨vs,hrun,hrep⟩:=OQ hi _ hps;refine⟨vs.toArray,?_,by simpa using hrep⟩;rw[dX,Array.mapM_eq_mapM_toList];simp[hrun]
 split at h
 .rename_i q hq;injection h with h;subst h;obtain⟨vs,hrun,hrep⟩:=key hq;simp only[AJ]at hrep;obtain⟨x,xs,e,hx,rfl⟩:=hrep
  have hvs:vs = #[x]:=by cases vs;simpa using e
  subst hvs;exact⟨x,by simpa using hrun,hx⟩
 .rename_i ps hne hq;injection h with h;subst h;obtain⟨vs,hrun,hrep⟩:=key hq;have hl:=hrep.length
  have h1:¬vs.size=1:=by
   intro h1
   have:ps.length=1:=by rw[<-hl];simpa using h1
   match ps,this with
   | [q],_=>exact hne q rfl
  rw[dif_neg h1]at hrun;refine⟨.tuple vs,hrun,?_⟩
  cases ha:DW ps with
  | none=>simp only[Aq];exact⟨vs,rfl,hrep⟩
  | some ts=>
   have:=Jv ha;subst this;simp only[Aq,AA];exact⟨vs,rfl,hrep.toT⟩
 .cases h
theorem OR:∀(args:List PV) (k j:Nat) (p:PV),Aj ((args.zipIdx j).map (λq=>(q.2,q.1))) k=some p->j<=k/\args[k-j]?=some p
 | [],k,j,p,h=>by simp[Aj]at h
 | x::args,k,j,p,h=>by
  simp only[X1,X2,Aj]at h;by_cases e:j=k
  .rw[zu e]at h;subst e;simpa using h
  .rw[zw e]at h;obtain⟨h1,h2⟩:=OR args k (j+1) p h;refine⟨by omega,?_⟩;rw[show k-j=(k-(j+1))+1 by omega];simpa using h2
end
end Go.Abs
