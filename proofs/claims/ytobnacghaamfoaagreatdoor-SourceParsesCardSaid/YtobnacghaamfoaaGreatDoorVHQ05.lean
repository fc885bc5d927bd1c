/- Auxiliary facts. -/
import Derived.Test.YtobnacghaamfoaaGreatDoorVHQ04
import Derived.Laws.MakeOwn
set_option linter.unusedSimpArgs false
set_option linter.unusedVariables false
open Nat renaming le_refl->Xa,add_mul->Xp,zero_add->Xs,mod_lt->Xw,lt_of_lt_of_le->Xy,mul_le_mul_right->X1
open Option renaming some->Xb
open List renaming getElem?_append_left->Xc,getElem?_append_right->Xf,mem_of_getElem?->Xg,getElem?_eq_some_iff->Xi,getD_eq_getElem?_getD->Xj,getElem?_map->Xk,getElem?_toArray->Xm,getElem?_take->Xn,getElem?_eq_getElem->Xo,append_assoc->Xt,getElem?_drop->Xu,all_eq_true->Xv,length_cons->Xz,getElem?_range->X0,zipIdx_cons->X2,foldl_cons->X3,map_cons->X4,mem_append->X6,mem_of_mem_take->X7,mem_of_mem_drop->X8,size_toArray->Yb,eq_nil_of_length_eq_zero->Yc,append_nil->Yd,getElem?_eq_none->Ye,mapM_cons->Yf,getElem?_cons_zero->Yg
open Go.Result renaming andThen_ok->Xd
open BitVec renaming ofInt->Xe
open Array renaming length_toList->Xh,range->Xl,getElem?_push_lt->Xq,getElem?_eq_getElem->Xr,toList_map->Xx,getElem?_append_left->X9,size_append->Ya
open Bool renaming false_eq_true->X5
namespace Go.Abs
open Go
@[simp] def upd {α:Type}:List (Nat×α)->Nat->α->List (Nat×α)
 | [],_,_=>[]
 | (k,x)::r,b,y=>if k=b then(k,y)::r else(k,x)::upd r b y
@[simp] def rem {α:Type}:List (Nat×α)->Nat->List (Nat×α)
 | [],_=>[]
 | (k,x)::r,b=>if k=b then rem r b else(k,x)::rem r b
theorem A9 {α:Type} (b:Nat) (y:α) (j:Nat):∀(H:List (Nat×α)),Aa (upd H b y) j=if j=b then(Aa H b).map (λ_=>y)else Aa H j
 | []=>by simp[upd,Aa]
 | (k,x)::r=>by
  simp only[upd];by_cases hk:k=b
  .rw[zy hk];simp only[Aa,hk];by_cases hj:b=j
   .simp[hj]
   .simp[hj,Ne.symm hj]
  .rw[zz hk];simp only[Aa,A9 b y j r];by_cases hj:k=j
   .have hb:¬j=b:=by omega
    simp[hj,hb]
   .simp only[zz hj,zz hk]
theorem Cr {α:Type} (b j:Nat):∀(H:List (Nat×α)),Aa (rem H b) j=if j=b then none else Aa H j
 | []=>by simp[rem,Aa]
 | (k,x)::r=>by
  simp only[rem];by_cases hk:k=b
  .rw[zy hk,Cr b j r];simp only[Aa];by_cases hj:j=b
   .simp[hj]
   .simp only[zz hj];rw[zz (by omega)]
  .rw[zz hk];simp only[Aa,Cr b j r];by_cases hj:k=j
   .have hb:¬j=b:=by omega
    simp[hj,hb]
   .simp[hj]
def Loc.grow (L:Loc) (g:Nat):Loc:={ I:=L.I,μ:=λb=>if b=L.nx then g else L.μ b,nx:=L.nx+1 }
theorem C9.keep {P:Program} {L L':Loc} {w w':World} (h:AO L w L' w') {g:Nat} {r:Row} (hr:C9 P L w g r) (hg:w'.heap[g]?=w.heap[g]?):C9 P L' w' g r:=by
 cases r with
 | cells ty cs=>
  obtain⟨arr,ha,hl,hc⟩:=hr;refine⟨arr,hg.trans ha,hl,λj c hj=>?_⟩;obtain⟨x,hx,h1,hr⟩:=hc j c hj;exact⟨x,hx,h1,Ae.keep h c hr⟩
 | iter s pos=>exact hg.trans hr
 | map kk es=>obtain⟨arr,c,h1,h2⟩:=hr;exact⟨arr,c,hg.trans h1,h2⟩
 | lp l x k p=>exact⟨hr.1,hg.trans hr.2.1,Ae.keep h p hr.2.2⟩
 | blk l o=>exact⟨hr.1,hg.trans hr.2⟩
section
variable {P : Program} {G : Ay} {L : Loc} {H : Ab} {w w' : World}
theorem ER {L':Loc} (hok:Bx P G L H w) (hm:F7 L.I L'.I w w'):∀g cs,Aa G g=some cs->L'.I g/\Ev L'.I w' cs g:=λg cs hg=>
 ⟨(hm g (hok.glob g cs hg).1).1,Ev.keep hm (hok.glob g cs hg).1 (hok.glob g cs hg).2⟩
theorem MM {o:Obj} (hok:Bx P G L H w) (hw:w'.heap=w.heap.push o):AO L w (L.grow w.heap.size) w' where
 keeps:=λb hb=>⟨hb,by rw[hw,Xq (hok.lt b hb),Xr (hok.lt b hb)]⟩
 nx:=Nat.le_succ _
 μ:=λb hb=>by simp only[Loc.grow];rw[zz (by omega)]
 size:=by rw[hw];simp
 shape:=λg hg arr ty fz he=>by
  rw[hw,Xq hg,<-Xr hg]at he;exact⟨arr,fz,he,rfl⟩
theorem QD {o:Obj} {r:Row} (hok:Bx P G L H w) (hout:BL w w') (hw:w'.heap=w.heap.push o) (hr:C9 P (L.grow w.heap.size) w' w.heap.size r) :
  Bx P G (L.grow w.heap.size) ((L.nx,r)::H) w'/\AO L w (L.grow w.heap.size) w'/\Ext L H w (L.grow w.heap.size) ((L.nx,r)::H) w':=by
 have hm:=MM hok hw
 have hsz:w'.heap.size=w.heap.size+1:=by rw[hw];simp
 have hold:∀g,g<w.heap.size->w'.heap[g]?=w.heap[g]?:=λg hg=>by
  rw[hw,Xq hg,Xr hg]
 have hμn:(L.grow w.heap.size).μ L.nx=w.heap.size:=by simp[Loc.grow]
 have hμo:∀b r,Aa H b=some r->(L.grow w.heap.size).μ b=L.μ b:=λb r hb=>hm.μ b (hok.nx b r hb)
 have cases':∀b r',Aa ((L.nx,r)::H) b=some r'->(b=L.nx/\r'=r)\/(b≠L.nx/\Aa H b=some r'):=by
  intro b r' hl;simp only[Aa]at hl;by_cases hb:L.nx=b
  .rw[zy hb]at hl;exact .inl ⟨hb.symm,by simpa using hl.symm⟩
  .rw[zz hb]at hl;exact .inr ⟨Ne.symm hb,hl⟩
 refine⟨⟨?_,?_,?_,?_,?_,ER hok hm.keeps⟩,hm,⟨by omega,λg hg _=>hold g hg,λg hg=>hg,λg hg=>.inl hg,?_,hm.shape,hout⟩⟩
 .intro b hb;have:=hok.lt b hb;omega
 .intro b r' hl;rcases cases' b r' hl with⟨rfl,rfl⟩ | ⟨_,hl'⟩
  .rw[hμn];exact hr
  .rw[hμo b r' hl'];exact(hok.rep b r' hl').keep hm (hold _ (hok.rep b r' hl').lt)
 .intro b r' hl hI;rcases cases' b r' hl with⟨rfl,rfl⟩ | ⟨_,hl'⟩
  .rw[hμn]at hI;have:=hok.lt _ hI;omega
  .rw[hμo b r' hl']at hI;exact hok.apart b r' hl' hI
 .intro b b' r1 r2 h1 h2 he;rcases cases' b r1 h1 with⟨rfl,rfl⟩ | ⟨hb,h1'⟩<;>rcases cases' b' r2 h2 with⟨rfl,rfl⟩ | ⟨hb',h2'⟩
  .rfl
  .rw[hμn,hμo b' r2 h2']at he;have:=(hok.rep b' r2 h2').lt;omega
  .rw[hμn,hμo b r1 h1']at he;have:=(hok.rep b r1 h1').lt;omega
  .rw[hμo b r1 h1',hμo b' r2 h2']at he;exact hok.inj b b' r1 r2 h1' h2' he
 .intro b r' hl;rcases cases' b r' hl with⟨rfl,rfl⟩ | ⟨_,hl'⟩
  .simp[Loc.grow]
  .have:=hok.nx b r' hl';simp only[Loc.grow];omega
 .rintro g ⟨b,r',hl,rfl⟩;rcases cases' b r' hl with⟨rfl,rfl⟩ | ⟨_,hl'⟩
  .left;rw[hμn];exact Xa _
  .right;exact⟨b,r',hl',(hμo b r' hl').symm⟩
theorem QE {b:Nat} {r0 r:Row} (hok:Bx P G L H w) (hout:BL w w') (hl:Aa H b=some r0) (hsize:w'.heap.size=w.heap.size)
  (hother:∀g,g≠L.μ b->w'.heap[g]?=w.heap[g]?) (hshape:BT w w') (hr:AO L w L w'->C9 P L w' (L.μ b) r) :
  Bx P G L (upd H b r) w'/\AO L w L w'/\Ext L H w L (upd H b r) w':=by
 have hm:AO L w L w':=by
  refine⟨λg hg=>⟨hg,hother g (λe=>hok.apart b r0 hl (e▸hg))⟩,Xa _,λ_ _=>rfl,by omega,hshape⟩
 have cases':∀k r',Aa (upd H b r) k=some r'->(k=b/\r'=r)\/(k≠b/\Aa H k=some r'):=by
  intro k r' hk;rw[A9]at hk;by_cases e:k=b
  .rw[zy e,hl]at hk;exact .inl ⟨e,by simpa using hk.symm⟩
  .rw[zz e]at hk;exact .inr ⟨e,hk⟩
 have back:∀k r',Aa (upd H b r) k=some r'->∃r'',Aa H k=some r'':=by
  intro k r' hk;rcases cases' k r' hk with⟨rfl,_⟩ | ⟨_,h⟩
  .exact⟨r0,hl⟩
  .exact⟨r',h⟩
 refine⟨⟨?_,?_,?_,?_,?_,ER hok hm.keeps⟩,hm,⟨by omega,?_,λg hg=>hg,λg hg=>.inl hg,?_,hshape,hout⟩⟩
 .intro g hg;rw[hsize];exact hok.lt g hg
 .intro k r' hk;rcases cases' k r' hk with⟨rfl,rfl⟩ | ⟨hne,h⟩
  .exact hr hm
  .exact(hok.rep k r' h).keep hm (hother _ (λe=>hne (hok.inj k b r' r0 h hl e)))
 .intro k r' hk;obtain⟨r'',h⟩:=back k r' hk;exact hok.apart k r'' h
 .intro k k' r1 r2 h1 h2 he;obtain⟨r1',h1'⟩:=back k r1 h1;obtain⟨r2',h2'⟩:=back k' r2 h2;exact hok.inj k k' r1' r2' h1' h2' he
 .intro k r' hk;obtain⟨r'',h⟩:=back k r' hk;exact hok.nx k r'' h
 .intro g _ hmine;exact hother g (λe=>hmine ⟨b,r0,hl,e.symm⟩)
 .rintro g ⟨k,r',hk,rfl⟩;obtain⟨r'',h⟩:=back k r' hk;exact .inr ⟨k,r'',h,rfl⟩
theorem kF (b:Nat) (hok:Bx P G L H w):Bx P G L (rem H b) w/\Ext L H w L (rem H b) w:=by
 have back:∀k r,Aa (rem H b) k=some r->Aa H k=some r:=by
  intro k r hk;rw[Cr]at hk;split at hk
  .cases hk
  .exact hk
 refine⟨⟨hok.lt,λk r hk=>hok.rep k r (back k r hk),λk r hk=>hok.apart k r (back k r hk),λk k' r r' h h'=>hok.inj k k' r r' (back k r h) (back k' r' h'),λk r hk=>hok.nx k r (back k r hk),hok.glob⟩,?_⟩;exact⟨Xa _,λ_ _ _=>rfl,λ_ h=>h,λ_ h=>.inl h,λg ⟨k,r,hk,e⟩=>.inr ⟨k,r,back k r hk,e⟩,BT.refl w,BL.refl w⟩
theorem Ui {b:Nat} {r:Row} (hok:Bx P G L H w) (hl:Aa H b=some r) :
  Bx P G (L.grow (L.μ b)) ((L.nx,r)::rem H b) w/\AO L w (L.grow (L.μ b)) w/\Ext L H w (L.grow (L.μ b)) ((L.nx,r)::rem H b) w:=by
 have hm:AO L w (L.grow (L.μ b)) w:=⟨λg hg=>⟨hg,rfl⟩,Nat.le_succ _,λk hk=>by simp only[Loc.grow];rw[zz (by omega)],Xa _,BT.refl w⟩
 have hμn:(L.grow (L.μ b)).μ L.nx=L.μ b:=by simp[Loc.grow]
 have hμo:∀k r',Aa H k=some r'->(L.grow (L.μ b)).μ k=L.μ k:=λk r' hk=>hm.μ k (hok.nx k r' hk)
 have cases':∀k r',Aa ((L.nx,r)::rem H b) k=some r'->(k=L.nx/\r'=r)\/(k≠L.nx/\k≠b/\Aa H k=some r'):=by
  intro k r' hk;simp only[Aa]at hk;by_cases hb:L.nx=k
  .rw[zy hb]at hk;exact .inl ⟨hb.symm,by simpa using hk.symm⟩
  .rw[zz hb,Cr]at hk;split at hk
   .cases hk
   .rename_i hne;exact .inr ⟨Ne.symm hb,hne,hk⟩
 refine⟨⟨hok.lt,?_,?_,?_,?_,ER hok hm.keeps⟩,hm,⟨Xa _,λ_ _ _=>rfl,λ_ h=>h,λ_ h=>.inl h,?_,BT.refl w,BL.refl w⟩⟩
 .intro k r' hk;rcases cases' k r' hk with⟨rfl,rfl⟩ | ⟨_,_,h⟩
  .rw[hμn];exact(hok.rep b r' hl).keep hm rfl
  .rw[hμo k r' h];exact(hok.rep k r' h).keep hm rfl
 .intro k r' hk hI;rcases cases' k r' hk with⟨rfl,rfl⟩ | ⟨_,_,h⟩
  .rw[hμn]at hI;exact hok.apart b r' hl hI
  .rw[hμo k r' h]at hI;exact hok.apart k r' h hI
 .intro k k' r1 r2 h1 h2 he;rcases cases' k r1 h1 with⟨rfl,rfl⟩ | ⟨hb,hb2,h1'⟩<;>rcases cases' k' r2 h2 with⟨rfl,rfl⟩ | ⟨hb',hb2',h2'⟩
  .rfl
  .rw[hμn,hμo k' r2 h2']at he;exact absurd (hok.inj b k' _ _ hl h2' he).symm hb2'
  .rw[hμn,hμo k r1 h1']at he;exact absurd (hok.inj k b _ _ h1' hl he) hb2
  .rw[hμo k r1 h1',hμo k' r2 h2']at he;exact hok.inj k k' r1 r2 h1' h2' he
 .intro k r' hk;rcases cases' k r' hk with⟨rfl,rfl⟩ | ⟨_,_,h⟩
  .simp[Loc.grow]
  .have:=hok.nx k r' h;simp only[Loc.grow];omega
 .rintro g ⟨k,r',hk,rfl⟩;rcases cases' k r' hk with⟨rfl,rfl⟩ | ⟨_,_,h⟩
  .right;rw[hμn];exact⟨b,r',hl,rfl⟩
  .right;exact⟨k,r',h,(hμo k r' h).symm⟩
theorem Bx.of_heap (hok:Bx P G L H w) (hout:BL w w') (hw:w'.heap=w.heap):Bx P G L H w'/\AO L w L w'/\Ext L H w L H w':=by
 have hm:AO L w L w':=⟨λg hg=>⟨hg,by rw[hw]⟩,Xa _,λ_ _=>rfl,by rw[hw];exact Xa _,λg _ arr ty fz he=>⟨arr,fz,by rw[<-hw];exact he,rfl⟩⟩
 refine⟨⟨λb hb=>by rw[hw];exact hok.lt b hb,λb r hb=>(hok.rep b r hb).keep hm (by rw[hw]),hok.apart,hok.inj,hok.nx,ER hok hm.keeps⟩,hm,?_⟩;exact⟨by rw[hw];exact Xa _,λg _ _=>by rw[hw],λ_ h=>h,λ_ h=>.inl h,λ_ h=>.inr h,hm.shape,hout⟩
end
def B7:PV->Option (List PV)
 | .t (.ag cs)=>some (cs.map .t)
 | .ag cs=>some cs
 | .t (.tu _)=>none
 | .tu _=>none
 | .dead=>none
 | .t (.v x)=>if x.oneCell' then some [.t (.v x)]else none
 | p=>some [p]
theorem QF {P:Program} {L:Loc} {w:World} {p:PV} {ps:List PV} {v:Value} (h:B7 p=some ps) (hr:Ae P L w p v) :
  A3 P L w ps v.cells.toList/\∀x∈v.cells.toList,x.oneCell'=true:=by
 have one:∀p:PV,Ae P L w p v->v.oneCell'=true->A3 P L w [p] v.cells.toList/\∀x∈v.cells.toList,x.oneCell'=true:=by
  intro p hp h1
  have e:v.cells.toList=[v]:=by cases v<;>first | rfl | simp[Value.oneCell']at h1
  rw[e];exact⟨by simp only[A3];exact⟨v,[],rfl,hp,rfl⟩,by simpa using h1⟩
 cases p with
 | t x=>
  cases x with
  | v x=>
   simp only[B7]at h;split at h
   .rename_i h1;injection h with h;subst h;have hr':=hr;simp only[Ae,An]at hr';subst hr';exact one _ hr h1
   .cases h
  | sl n cs=>simp only[B7,Xb.injEq]at h;subst h;refine one _ hr ?_;simp only[Ae,An]at hr;obtain⟨a,c,rfl,_⟩:=hr;rfl
  | ag cs=>
   simp only[B7,Xb.injEq]at h;subst h;simp only[Ae,An]at hr;obtain⟨us,rfl,h1,hl⟩:=hr;exact⟨A3.ofT hl,h1⟩
  | tu cs=>simp only[B7]at h;cases h
  | pt cs=>simp only[B7,Xb.injEq]at h;subst h;refine one _ hr ?_;simp only[Ae,An]at hr;obtain⟨b,o,rfl,_⟩:=hr;rfl
  | ic t x=>simp only[B7,Xb.injEq]at h;subst h;refine one _ hr ?_;simp only[Ae,An]at hr;obtain⟨y,rfl,_⟩:=hr;rfl
 | row b o n z=>simp only[B7,Xb.injEq]at h;subst h;refine one _ hr ?_;simp only[Ae]at hr;obtain⟨_,_,c,rfl,_⟩:=hr;rfl
 | ptr b o=>simp only[B7,Xb.injEq]at h;subst h;refine one _ hr ?_;simp only[Ae]at hr;obtain⟨_,rfl⟩:=hr;rfl
 | ag cs=>
  simp only[B7,Xb.injEq]at h;subst h;simp only[Ae]at hr;obtain⟨us,rfl,h1,hl⟩:=hr;exact⟨hl,h1⟩
 | tu cs=>simp only[B7]at h;cases h
 | fn f a b=>simp only[B7,Xb.injEq]at h;subst h;refine one _ hr ?_;simp only[Ae]at hr;obtain⟨us,vs,rfl,_⟩:=hr;rfl
 | ic t x=>simp only[B7,Xb.injEq]at h;subst h;refine one _ hr ?_;simp only[Ae]at hr;obtain⟨y,rfl,_⟩:=hr;rfl
 | mp b=>simp only[B7,Xb.injEq]at h;subst h;refine one _ hr ?_;simp only[Ae]at hr;obtain⟨_,rfl⟩:=hr;rfl
 | dead=>simp only[B7]at h;cases h
def Bj {α:Type} (cs:List α) (o:Nat) (ps:List α):List α:=
 match ps with
 | [p]=>cs.set o p
 | _=>cs.take o++ps++cs.drop (o+ps.length)
theorem O4 {α:Type} {cs:List α} {o:Nat} {ps:List α} (h:o+ps.length<=cs.length):Bj cs o ps=cs.take o++ps++cs.drop (o+ps.length):=by
 unfold Bj;split
 .rename_i p;simp only[Xz,List.length_nil,Xs]at h ⊢;rw[List.set_eq_take_append_cons_drop,zy (by omega)];simp
 .rfl
theorem Ln {α:Type} {cs:List α} {o:Nat} {ps:List α} (h:o+ps.length<=cs.length):(Bj cs o ps).length=cs.length:=by
 rw[O4 h];simp;omega
theorem Uj {P:Program} {L:Loc} {w:World} {cs ps:List PV} {arr:Array Value} {vs:List Value} {o:Nat} (hl:cs.length<=arr.size) (hfit:o+ps.length<=cs.length)
  (hc:∀(j:Nat) c,cs[j]?=some c->∃x,arr[j]?=some x/\x.oneCell'=true/\Ae P L w c x) (hp:A3 P L w ps vs) (h1:∀x∈vs,x.oneCell'=true) (j:Nat) (c:PV)
  (hj:(Bj cs o ps)[j]?=some c):∃x,(arr.toList.take o++vs++arr.toList.drop (o+vs.length)).toArray[j]?=some x/\x.oneCell'=true/\Ae P L w c x:=by
 have hlen:=hp.length;rw[O4 hfit]at hj;simp only[Xm]
 have hto:(arr.toList.take o).length=o:=by simp;omega
 have hco:(cs.take o).length=o:=by simp;omega
 by_cases h:j<o
 .rw[Xt,Xc (by omega),Xn,zy h]at hj ⊢;obtain⟨x,hx,r⟩:=hc j c hj;exact⟨x,by simpa using hx,r⟩
 .by_cases h2:j<o+ps.length
  .rw[Xt,Xf (by omega),Xc (by omega)]at hj ⊢;rw[hco]at hj;rw[hto];obtain⟨x,hx,r⟩:=hp.at_ _ hj;exact⟨x,hx,h1 x (Xg hx),r⟩
  .rw[Xt,Xf (by omega),Xf (by omega),Xu]at hj ⊢;rw[hco]at hj;rw[hto]
   have e1:o+ps.length+(j-o-ps.length)=j:=by omega
   have e2:o+vs.length+(j-o-vs.length)=j:=by omega
   rw[e1]at hj;rw[e2];obtain⟨x,hx,r⟩:=hc j c hj;exact⟨x,by simpa using hx,r⟩
def Lo (P:Program) (H:Ab) (t:TypeId) (p x:PV):Option Ab:=
 match Gt P t,p,B7 x with
 | some (_,n),.ptr b o,some ps=>match Aa H b with
  | some (.cells ty cs)=>if ps.length=n/\o+ps.length<=cs.length then some (upd H b (.cells ty (Bj cs o ps)))else none
  | _=>none
 | _,_,_=>none
section
variable {P : Program} {G : Ay} {B : Nat} {s : Ac} {o : Oper}
theorem Uk {w:World} {g:Nat} {arr arr':Array Value} {ty:TypeId} (hg:w.heap[g]?=some (.cells arr ty (0,0))) (hs:arr'.size=arr.size):BT w (w.setRow g arr'):=by
 intro k hk a t f he;by_cases e:k=g
 .subst e;rw[setRow_heap w k arr arr' ty (0,0) hg]at he;injection he with he;injection he with h1 h2 h3;subst h1;subst h2;exact⟨arr,(0,0),hg,hs.symm⟩
 .rw[setRow_other w g k arr' e]at he;exact⟨a,f,he,rfl⟩
theorem kG {t:TypeId} {x y:Operand} {H':Ab} (ho:o.op = .store t x y) (h:Lo P s.H t (s.ev G x) (s.ev G y)=some H'):AOp P G B o s (.t (.v undef)) H' s.nx:=λL a w hi=>by
 unfold Lo at h;split at h
 .rename_i b n p off ps hsh hp hcs;split at h
  .rename_i ty cs hl;split at h
   .rename_i hfit;obtain⟨hn,hfit⟩:=hfit;injection h with h;subst h;have hx:=hi.ev x;have hy:=hi.ev y;rw[hp]at hx;simp only[Ae]at hx;obtain⟨hb,hx⟩:=hx;obtain⟨hrep,h1⟩:=QF hcs hy;obtain⟨arr,harr,hle,hc⟩:=hi.heap.rep p _ hl;have hsz:=(IQ hsh w).2;have hvl:=hrep.length;have hstore:=run_storeCells_at P (L.μ p) off ty (a.eval y).cells.toList 0 arr w harr (by omega) h1;simp only[Nat.add_zero]at hstore
    have hsize:(a.eval y).cells.size=n:=by rw[<-Xh,hvl,hn]
    unfold Oper.wp
    have hrun:(execOp a.eval o).run P w = .ok .skip (w.setRow (L.μ p) (arr.toList.take off++(a.eval y).cells.toList++arr.toList.drop (off+(a.eval y).cells.toList.length)).toArray):=by
     simp[execOp,ho,hx,Instr.storeAt,Instr.sureAddr,storeVar,hsz,hsize,hstore]
    rw[hrun,Oper.upon_skip]
    have hw:=QE (w':=w.setRow (L.μ p) (arr.toList.take off++(a.eval y).cells.toList++arr.toList.drop (off+(a.eval y).cells.toList.length)).toArray) (r:=.cells ty (Bj cs off ps)) hi.heap ⟨rfl,rfl,rfl⟩ hl (by simp)
     (λg hg=>setRow_other w _ g _ hg) (Uk harr (by simp;omega))
     (λhm=>⟨_,setRow_heap w _ arr _ ty _ harr,by rw[Ln hfit];simp;omega,λj c hj=>by
      obtain⟨z,hz,h1z,hr⟩:=Uj hle hfit hc hrep h1 j c hj
      exact⟨z,hz,h1z,Ae.keep hm c hr⟩⟩)
    exact⟨undef,L,rfl,by simp only[Ae,An],hw.1,hi.nx,hw.2.1,hw.2.2⟩
   .cases h
  .cases h
 .cases h
def FB (P:Program) (t:TypeId):Option (TypeId×Nat×Nat×List Value):=
 match P.underlying t with
 | some (.slice e)=>match P.info? e with
  | some i=>match i.zero with
   | some z=>if z.cells.size=i.size/\0<i.size/\z.cells.toList.all (·.oneCell')then some (e,i.size,i.bytes,z.cells.toList)else none
   | none=>none
  | none=>none
 | _=>none
theorem MN {t e:TypeId} {n by':Nat} {zc:List Value} (h:FB P t=some (e,n,by',zc)) :
  ∃i z,P.underlying t=some (.slice e)/\P.info? e=some i/\i.zero=some z/\i.size=n/\i.bytes=by'/\z.cells.toList=zc/\zc.length=n/\0<n/\∀x∈zc,x.oneCell'=true:=by
 unfold FB at h;split at h
 .rename_i e' hu;split at h
  .rename_i i hi;split at h
   .rename_i z hz;split at h
    .rename_i hc;injection h with h;injection h with h1 h2;injection h2 with h2 h3;injection h3 with h3 h4;subst h1;subst h2;subst h3;subst h4;exact⟨i,z,hu,hi,hz,rfl,rfl,rfl,by simpa using hc.1,hc.2.1,Xv.1 hc.2.2⟩
    .cases h
   .cases h
  .cases h
 .cases h
def FW (zc:List Value) (n:Nat):List PV:=
 match zc with
 | [z]=>List.replicate n (.t (.v z))
 | _=>(List.range (n*zc.length)).map λi=>.t (.v (zc.getD (i%zc.length) undef))
theorem MO (zc:List Value) (n:Nat):(FW zc n).length=n*zc.length:=by
 unfold FW;split<;>simp
theorem Ul {zc:List Value} {n j:Nat} {c:PV} (h:(FW zc n)[j]?=some c):j<n*zc.length/\c = .t (.v (zc.getD (j%zc.length) undef)):=by
 have hl:j<n*zc.length:=by rw[<-MO];exact(Xi.1 h).1
 refine⟨hl,?_⟩;unfold FW at h;split at h
 .rename_i z;simp only[List.getElem?_replicate]at h;split at h
  .injection h with h;subst h;simp[Nat.mod_one]
  .cases h
 .simp only[Xk]at h;rw[X0 hl]at h;simpa using h.symm
theorem MP {r:PV} {row:Row} (h:∀L a w,Interp P G B L s a w->∃v w' ob,(execOp a.eval o).run P w = .ok (.value v) w'/\BL w w'/\w'.heap=w.heap.push ob /\
  (AO L w (L.grow w.heap.size) w'->C9 P (L.grow w.heap.size) w' w.heap.size row/\Ae P (L.grow w.heap.size) w' r v)):AOp P G B o s r ((s.nx,row)::s.H) (s.nx+1):=λL a w hi=>by
 obtain⟨v,w',ob,hrun,hout,hw,hrest⟩:=h L a w hi;have hm:=MM hi.heap hw;obtain⟨hrow,hr⟩:=hrest hm;have hn:=QD hi.heap hout hw hrow;unfold Oper.wp;rw[hrun,Oper.upon_value];rw[<-hi.nx];exact⟨v,_,rfl,hr,hn.1,rfl,hn.2.1,hn.2.2⟩
def Lp (P:Program) (t:TypeId) (l c:PV) (nx:Nat):Option (PV×Row):=
 match l,c,FB P t with
 | .t (.v (.int _ l)),.t (.v (.int _ c)),some (e,n,by',zc)=>
  if 0<=l/\l<=c/\c<=9223372036854775807/\(by':Int)*c<=281474976710656 then some (.row nx 0 l.toNat n,.cells e (FW zc l.toNat))else none
 | _,_,_=>none
theorem kH {t:TypeId} {x y:Operand} {r:PV} {row:Row} (ho:o.op = .makeSlice t x y) (h:Lp P t (s.ev G x) (s.ev G y) s.nx=some (r,row)):AOp P G B o s r ((s.nx,row)::s.H) (s.nx+1):=by
 refine MP λL a w hi=>?_;unfold Lp at h;split at h
 .rename_i k1 l k2 c e n by' zc hx hy he
  split at h
  .rename_i hb;obtain⟨h0,hlc,h63,hbytes⟩:=hb;injection h with h;injection h with h1 h2;subst h1;subst h2;obtain⟨i,z,hu,hi',hz,rfl,rfl,rfl,hzl,hpos,hone⟩:=MN he;have ex:=hi.ev x;have ey:=hi.ev y;rw[hx]at ex;rw[hy]at ey;simp only[Ae,An]at ex ey;have hrun:=run_make (P:=P) w t e i z hu hi' hz k1 k2 l c h0 hlc hbytes h63;refine⟨_,_,_,by simp only[execOp,ho,ex,ey,Sem.run_bind,hrun,Xd];rfl,(show BL w (w.alloc _)from⟨rfl,rfl,rfl⟩),rfl,λhm=>?_⟩
   have hzs:z.cells.size=i.size:=by simpa using hzl
   have hle:l.toNat*i.size<=c.toNat*i.size:=X1 _ (by omega);refine⟨⟨madeCells z.cells (c.toNat*i.size),heap_alloc_new w _,by rw[MO,size_madeCells,hzl];exact hle,λj q hq=>?_⟩,?_⟩
   .obtain⟨hj,rfl⟩:=Ul hq;rw[hzl]at hj
    have hjm:j%i.size<z.cells.size:=by rw[hzs];exact Xw _ hpos
    refine⟨z.cells[j%i.size],?_,hone _ (by simp),?_⟩
    .unfold madeCells;simp only[Array.getElem?_map];rw[Array.getElem?_range,zy (by omega)];simp only[Option.map_some,hzs,Xb.injEq];exact getElem!_pos z.cells _ hjm
    .simp only[Ae,An,hzl];rw[Xj];simp[hjm]
   .simp only[Ae];refine⟨by simp[Loc.grow,hi.nx],by simp[Loc.grow,hi.nx],c.toNat,by simp[Loc.grow,hi.nx],by omega,λarr ty fz hh=>?_⟩
    have e1:(L.grow w.heap.size).μ s.nx=w.heap.size:=by simp[Loc.grow,hi.nx]
    rw[e1,heap_alloc_new]at hh;injection hh with hh;injection hh with h1 h2;rw[<-h1,size_madeCells];omega
  .cases h
 .cases h
theorem Um {L:Loc} {w w':World} {v:Value} {ps:List PV} {ty:TypeId} (hw:w'.heap=w.heap.push (.cells v.cells ty (0,0))) (hm:AO L w (L.grow w.heap.size) w')
  (hrep:A3 P L w ps v.cells.toList) (h1:∀x∈v.cells.toList,x.oneCell'=true):C9 P (L.grow w.heap.size) w' w.heap.size (.cells ty ps):=by
 refine⟨v.cells,by rw[hw];simp,by rw[<-hrep.length];simp,λj c hj=>?_⟩;obtain⟨x,hx,hr⟩:=hrep.at_ j hj;exact⟨x,by simpa using hx,h1 x (Xg hx),Ae.keep hm c hr⟩
theorem kI {t:TypeId} {x:Operand} {ps:List PV} (ho:o.op = .box t x) (h:B7 (s.ev G x)=some ps):AOp P G B o s (.ptr s.nx 0) ((s.nx,.cells t ps)::s.H) (s.nx+1):=by
 refine MP λL a w hi=>?_;obtain⟨hrep,h1⟩:=QF h (hi.ev x);refine⟨.pointer (some ⟨w.heap.size,0,none⟩),w.alloc (.cells (a.eval x).cells t),_,by simp[execOp,ho,Instr.box,newVar,newRow],⟨rfl,rfl,rfl⟩,rfl,λhm=>⟨Um rfl hm hrep h1,?_⟩⟩;simp only[Ae];exact⟨by simp[Loc.grow,hi.nx],by simp[Loc.grow,hi.nx]⟩
def Gw (P:Program) (t:TypeId):Option (List Value):=
 match P.info? t with
 | some i=>match i.zero with
  | some z=>if z.cells.toList.all (·.oneCell')then some z.cells.toList else none
  | none=>none
 | none=>none
theorem Un {t:TypeId} {zc:List Value} (h:Gw P t=some zc) (w:World):∃z,(zeroValue t).run P w = .ok z w/\z.cells.toList=zc/\∀x∈zc,x.oneCell'=true:=by
 unfold Gw at h;split at h
 .rename_i i hi;split at h
  .rename_i z hz;split at h
   .rename_i h1;injection h with h;subst h;exact⟨z,by simp[zeroValue,typeInfo,hi,hz],rfl,Xv.1 h1⟩
   .cases h
  .cases h
 .cases h
theorem Uo (P:Program) (L:Loc) (w:World) (us:List Value):A3 P L w (us.map λx=>.t (.v x)) us:=by
 have:=A3.ofT (P:=P) (L:=L) (Q6 L.I w us);rw[List.map_map]at this;exact this
theorem kJ {t:TypeId} {zc:List Value} (ho:o.op = .alloc t) (h:Gw P t=some zc):AOp P G B o s (.ptr s.nx 0) ((s.nx,.cells t (zc.map λx=>.t (.v x)))::s.H) (s.nx+1):=by
 refine MP λL a w hi=>?_;obtain⟨z,hz,rfl,h1⟩:=Un h w;refine⟨.pointer (some ⟨w.heap.size,0,none⟩),w.alloc (.cells z.cells t),_,by simp[execOp,ho,Instr.alloc,newVar,newRow,hz],⟨rfl,rfl,rfl⟩,rfl,λhm=>⟨Um rfl hm (Uo P L w _) h1,?_⟩⟩;simp only[Ae];exact⟨by simp[Loc.grow,hi.nx],by simp[Loc.grow,hi.nx]⟩
def DA (place:Nat->Option (Nat×Nat)) (cs:List PV):List (Nat×PV)->Option (List PV)
 | []=>some cs
 | (i,p)::AY=>match place i,B7 p with
  | some (off,size),some ps=>if ps.length=size/\off+ps.length<=cs.length then DA place (Bj cs off ps) AY else none
  | _,_=>none
theorem Up (off:Nat):∀(l:List Value) (k:Nat) (cells:Array Value),off+k+l.length<=cells.size ->
  ((l.zipIdx k).foldl (λ(cs:Array Value) (p:Value×Nat)=>cs.setIfInBounds (off+p.2) p.1) cells).toList=cells.toList.take (off+k)++l++cells.toList.drop (off+k+l.length)
 | [],k,cells,_=>by simp
 | v::l,k,cells,h=>by
  simp only[Xz]at h;simp only[X2,X3];rw[Up off l (k+1) (cells.setIfInBounds (off+k) v) (by simp;omega)];rw[Array.toList_setIfInBounds];have:=list_seg_step cells.toList (off+k) v l (by simp;omega);rw[show off+(k+1)=off+k+1 by omega,this];simp[Nat.add_assoc,Nat.add_comm 1]
theorem O5 {P:Program} {L:Loc} {w:World} {place:Nat->Option (Nat×Nat)}:∀(parts:List (Nat×PV)) (vals:List (Nat×Value)) (cs out:List PV) (arr:Array Value),
  vals.map Prod.fst=parts.map Prod.fst->(∀(j:Nat) p v,parts[j]?=some p->vals[j]?=some v->Ae P L w p.2 v.2)->A3 P L w cs arr.toList->(∀x∈arr.toList,x.oneCell'=true)->DA place cs parts=some out ->
  ∃arr',Instr.fill place arr vals=some arr'/\A3 P L w out arr'.toList/\(∀x∈arr'.toList,x.oneCell'=true)
 | [],vals,cs,out,arr,he,_,hr,h1,h=>by
  have:vals=[]:=by simpa using he
  subst this;simp only[DA,Xb.injEq]at h;subst h;exact⟨arr,rfl,hr,h1⟩
 | (i,p)::AY,[],cs,out,arr,he,_,hr,h1,h=>by simp at he
 | (i,p)::AY,(i',v)::vals,cs,out,arr,he,hp,hr,h1,h=>by
  simp only[X4,List.cons.injEq]at he;obtain⟨rfl,he⟩:=he;simp only[DA]at h;split at h
  .rename_i off size ps hpl hps;split at h
   .rename_i hfit;obtain⟨hs,hfit⟩:=hfit;obtain⟨hrep,h1v⟩:=QF hps (hp 0 (i',p) (i',v) (by simp) (by simp));have hvl:=hrep.length;simp only[Xh]at hvl;have hal:=hr.length;simp only[Xh]at hal;simp only[Instr.fill,hpl]
    have hcond:(v.cells.size≠size||off+v.cells.size>arr.size)=false:=by
     simp only[hvl,hs,ne_eq,not_true_eq_false,decide_false,Bool.false_or,decide_eq_false_iff_not];omega
    rw[hcond];simp only[X5,if_false];have hfold:=Up off v.cells.toList 0 arr (by simp only[Xh];omega)
    have hfe:(v.cells.zipIdx.foldl (λ(cs:Array Value) (x:Value×Nat)=>cs.setIfInBounds (off+x.2) x.1) arr).toList=arr.toList.take off++v.cells.toList++arr.toList.drop (off+v.cells.toList.length):=by
     simp only[Nat.add_zero]at hfold;rw[<-hfold,<-Array.foldl_toList];simp
    refine O5 AY vals (Bj cs off ps) out _ he (λj q u hq hu=>hp (j+1) q u (by simpa using hq) (by simpa using hu)) ?_ ?_ h
    .rw[hfe];refine A3.mk ?_ λk c x hk hx=>?_
     .rw[Ln hfit];simp;omega
     .obtain⟨y,hy,_,hry⟩:=Uj (arr:=arr) (by omega) hfit (λj c hj=>by
       obtain⟨x,hx,hr'⟩:=hr.at_ j hj
       exact⟨x,by simpa using hx,h1 x (Xg hx),hr'⟩) hrep h1v k c hk
      simp only[Xm]at hy;rw[hy]at hx;injection hx with hx;subst hx;exact hry
    .rw[hfe];intro x hx;simp only[X6]at hx;rcases hx with(hx | hx) | hx
     .exact h1 x (X7 hx)
     .exact h1v x hx
     .exact h1 x (X8 hx)
   .cases h
  .cases h
def HJ (P:Program) (t:TypeId) (len:Nat) (parts:List (Nat×PV)) (nx:Nat):Option (PV×Row):=
 match FB P t with
 | some (e,n,_,zc)=>if len*n<=16777216 then(DA (λi=>some (i*n,n)) (FW zc len) parts).map λcs=>(.row nx 0 len n,.cells e cs)else none
 | none=>none
theorem Uq {L:Loc} {w:World} {z:Value} {n:Nat} {size:Nat} (hz:z.cells.size=size) (h1:∀x∈z.cells.toList,x.oneCell'=true) :
  A3 P L w (FW z.cells.toList n) (((Xl (n*size)).map (z.cells[· % z.cells.size]!)).toList)/\∀x∈(((Xl (n*size)).map (z.cells[· % z.cells.size]!)).toList),n*size=0\/0<size->x.oneCell'=true:=by
 have hat:∀(j:Nat) x,(((Xl (n*size)).map (z.cells[· % z.cells.size]!)).toList)[j]?=some x->j<n*size/\x=z.cells[j%z.cells.size]!:=by
  intro j x hx;simp only[Xx,Array.toList_range,Xk]at hx
  cases hr:(List.range (n*size))[j]? with
  | none=>rw[hr]at hx;cases hx
  | some k=>
   rw[hr]at hx;have hjl:=(Xi.1 hr).1;simp only[List.length_range]at hjl;rw[X0 hjl]at hr;injection hr with hr;subst hr;exact⟨hjl,by simpa using hx.symm⟩
 refine⟨A3.mk (by rw[MO];simp[hz]) λk c x hk hx=>?_,λx hx hpos=>?_⟩
 .obtain⟨hkl,rfl⟩:=Ul hk;obtain⟨hj,rfl⟩:=hat k x hx;simp only[Ae,An];simp only[Xh]at hkl
  have hp:0<z.cells.size:=by
   rcases Nat.eq_zero_or_pos z.cells.size with h0 | h0
   .rw[h0]at hkl;simp at hkl
   .exact h0
  have hm:k%z.cells.size<z.cells.size:=Xw _ hp;rw[getElem!_pos z.cells _ hm,Xj];simp[hm]
 .obtain⟨j,hj⟩:=List.getElem?_of_mem hx;obtain⟨hjl,rfl⟩:=hat j x hj
  have hp:0<z.cells.size:=by
   rcases hpos with h | h
   .omega
   .omega
  have hm:j%z.cells.size<z.cells.size:=Xw _ hp;rw[getElem!_pos z.cells _ hm];exact h1 _ (by simp)
theorem QG {L:Loc} {a:Act} {w:World} (hi:Interp P G B L s a w) (parts:List (Nat×Operand)) :
  ((parts.map λp=>(p.1,a.eval p.2)).map Prod.fst=(parts.map λp=>(p.1,s.ev G p.2)).map Prod.fst) /\
  (∀(j:Nat) p v,(parts.map λp=>(p.1,s.ev G p.2))[j]?=some p->(parts.map λp=>(p.1,a.eval p.2))[j]?=some v->Ae P L w p.2 v.2):=by
 refine⟨by simp,λj p v hp hv=>?_⟩;simp only[Xk]at hp hv
 cases hq:parts[j]? with
 | none=>rw[hq]at hp;cases hp
 | some q=>
  rw[hq]at hp hv;injection hp with hp;injection hv with hv;subst hp;subst hv;exact hi.ev q.2
theorem Ur {t:TypeId} {len:Nat} {parts:Array (Nat×Operand)} {r:PV} {row:Row} (ho:o.op = .buildSlice t len parts)
  (h:HJ P t len (parts.toList.map λp=>(p.1,s.ev G p.2)) s.nx=some (r,row)) (L:Loc) (a:Act) (w:World) (hi:Interp P G B L s a w) :
  ∃v w' ob,(execOp a.eval o).run P w = .ok (.value v) w'/\BL w w'/\w'.heap=w.heap.push ob /\
  (AO L w (L.grow w.heap.size) w'->C9 P (L.grow w.heap.size) w' w.heap.size row/\Ae P (L.grow w.heap.size) w' r v):=by
 unfold HJ at h;split at h
 .rename_i e n by' zc he
  split at h
  .rename_i hsz;obtain⟨i,z,hu,hi',hz,rfl,rfl,rfl,hzl,hpos,hone⟩:=MN he
   cases hf:DA (λk=>some (k*i.size,i.size)) (FW z.cells.toList len) (parts.toList.map λp=>(p.1,s.ev G p.2))with
   | none=>rw[hf]at h;cases h
   | some cs=>
    rw[hf]at h;injection h with h;injection h with h1 h2;subst h1;subst h2
    have hzs:z.cells.size=i.size:=by simpa using hzl
    obtain⟨hp1,hp2⟩:=QG hi parts.toList;obtain⟨hz1,hz2⟩:=Uq (P:=P) (L:=L) (w:=w) (n:=len) hzs hone;obtain⟨arr',hfill,hrep,h1'⟩:=O5 _ _ _ _ _ hp1 hp2 hz1 (λx hx=>hz2 x hx (.inr hpos)) hf
    have hzero:(zeroValue e).run P w = .ok z w:=by simp[zeroValue,typeInfo,hi',hz]
    have hrun:(Instr.buildSlice t len (parts.map λ(k,x)=>(k,a.eval x))).run P w = .ok (.slice (some ⟨w.heap.size,0,none⟩) len len) (w.alloc (.cells arr' e)):=by
     have hpl:(parts.map λ(k,x)=>(k,a.eval x)).toList=parts.toList.map λp=>(p.1,a.eval p.2):=by simp
     simp only[Instr.buildSlice,Sem.run_bind,run_underlying hu,Xd,sizeOf,typeInfo,run_program,hi',Sem.run_pure];rw[zz (by omega)];by_cases h0:len*i.size=0
     .have hl0:len=0:=by
       rcases Nat.mul_eq_zero.1 h0 with h | h
       .exact h
       .omega
      subst hl0;simp only[Nat.zero_mul,if_true,Sem.run_pure,Sem.run_bind,Xd,hpl]
      have:(Xl 0).map (z.cells[· % z.cells.size]!)=(Xl 0).map ((#[]:Array Value)[· % (#[]:Array Value).size]!):=by simp
      simp only[Nat.zero_mul]at hfill;rw[this]at hfill;rw[hfill];simp[newRow]
     .simp only[zz h0,Sem.run_bind,hzero,Xd,Sem.run_pure,hpl,hfill];simp[newRow]
    refine⟨_,_,_,by simp only[execOp,ho,Sem.run_bind,hrun,Xd];rfl,(show BL w (w.alloc _)from⟨rfl,rfl,rfl⟩),rfl,λhm=>?_⟩;have hlen:=hrep.length;simp only[Xh]at hlen;refine⟨⟨arr',heap_alloc_new w _,by omega,λj c hj=>?_⟩,?_⟩
    .obtain⟨x,hx,hr⟩:=hrep.at_ j hj;exact⟨x,by simpa using hx,h1' x (Xg hx),Ae.keep hm c hr⟩
    .simp only[Ae];refine⟨by simp[Loc.grow,hi.nx],by simp[Loc.grow,hi.nx],len,by simp[Loc.grow,hi.nx],by omega,λarr ty fz hh=>?_⟩
     have e1:(L.grow w.heap.size).μ s.nx=w.heap.size:=by simp[Loc.grow,hi.nx]
     rw[e1,heap_alloc_new]at hh;injection hh with hh;injection hh with hh1 hh2;rw[<-hh1,hlen]
     have hfl:∀(parts:List (Nat×PV)) (cs out:List PV),DA (λk=>some (k*i.size,i.size)) cs parts=some out->out.length=cs.length:=by
      intro parts
      induction parts with
      | nil=>intro cs out h;simp only[DA,Xb.injEq]at h;rw[h]
      | cons p AY ih=>
       intro cs out h;obtain⟨k,p⟩:=p;simp only[DA]at h;split at h
       .split at h
        .rename_i hfit;rw[ih _ _ h,Ln hfit.2]
        .cases h
       .cases h
     rw[hfl _ _ _ hf,MO,hzl];omega
  .cases h
 .cases h
theorem kK {t:TypeId} {len:Nat} {parts:Array (Nat×Operand)} {r:PV} {row:Row} (ho:o.op = .buildSlice t len parts)
  (h:HJ P t len (parts.toList.map λp=>(p.1,s.ev G p.2)) s.nx=some (r,row)):AOp P G B o s r ((s.nx,row)::s.H) (s.nx+1):=
 MP (Ur ho h)
theorem kL {len z ty:Nat} {ts:List T} (hl:ts.length=len*z) (h:∀L a w,Interp P G B L s a w->∃v w' ob,(execOp a.eval o).run P w = .ok (.value v) w'/\BL w w'/\w'.heap=w.heap.push ob /\
  (AO L w (L.grow w.heap.size) w'->C9 P (L.grow w.heap.size) w' w.heap.size (.cells ty (ts.map .t))/\Ae P (L.grow w.heap.size) w' (.row s.nx 0 len z) v)):AOp P G B o s (.t (.sl len ts)) s.H s.nx:=λL a w hi=>by
 obtain⟨v,w',ob,hrun,hout,hw,hrest⟩:=h L a w hi;have hm:=MM hi.heap hw;obtain⟨hrow,hr⟩:=hrest hm;unfold Oper.wp;rw[hrun,Oper.upon_value]
 have hold:∀g,g<w.heap.size->w'.heap[g]?=w.heap[g]?:=λg hg=>by rw[hw,Array.getElem?_push,zz (by omega)]
 let L':Loc:=⟨λg=>L.I g\/g=w.heap.size,L.μ,L.nx⟩
 have hm':AO L w L' w':=⟨λb hb=>⟨.inl hb,hold b (hi.heap.lt b hb)⟩,Xa _,λ_ _=>rfl,hm.size,hm.shape⟩
 refine⟨v,L',rfl,?_,?_,hi.nx,hm',?_⟩
 .simp only[Ae]at hr;obtain⟨_,hlt,c,rfl,hc,_⟩:=hr
  have e1:(L.grow w.heap.size).μ s.nx=w.heap.size:=by simp[Loc.grow,hi.nx]
  simp only[Ae,An];refine⟨_,c,rfl,hc,.inr ⟨rfl,by rw[e1];exact .inr rfl,Bq.mk λk t hk=>?_⟩⟩;obtain⟨arr,ha,hal,hcell⟩:=hrow;obtain⟨x,hx,h1,hrx⟩:=hcell k (.t t) (by simp[hk]);refine⟨x,?_,h1,?_⟩
  .rw[e1];simp[World.cell?,ha,hx]
  .simp only[Ae]at hrx;exact An.keep (λb hb=>⟨.inl hb,rfl⟩) t hrx
 .refine⟨?_,λb r hb=>(hi.heap.rep b r hb).keep hm' (hold _ (hi.heap.rep b r hb).lt),λb r hb hI=>?_,hi.heap.inj,hi.heap.nx,ER hi.heap hm'.keeps⟩
  .rintro b (hb | rfl)
   .exact Xy (hi.heap.lt b hb) hm.size
   .rw[hw];simp
  .rcases hI with hI | hI
   .exact hi.heap.apart b r hb hI
   .have:=(hi.heap.rep b r hb).lt;have e:L'.μ b=L.μ b:=rfl;omega
 .refine⟨hm.size,λg hg _=>hold g hg,λ_ h=>.inl h,λg hg=>?_,λg h=>.inr h,hm.shape,hout⟩;rcases hg with hg | rfl
  .exact .inl hg
  .exact .inr (.inl (Xa _))
end
def DB (H:Ab) (z:Nat):PV->Option (Nat×List PV)
 | .t (.v (.slice none n _))=>if n=0 then some (0,[])else none
 | .t (.sl m cs)=>if cs.length=m*z then some (m,cs.map .t)else none
 | .row b o m z'=>match Aa H b with
  | some (.cells _ cs)=>if z'=z/\o+m*z<=cs.length then some (m,(cs.drop o).take (m*z))else none
  | _=>none
 | _=>none
section
variable {P : Program} {G : Ay} {B : Nat} {s : Ac} {o : Oper}
theorem kM {L:Loc} {H:Ab} {w:World} {z m:Nat} {p:PV} {ps:List PV} {u:Value} (hok:Bx P G L H w) (h:DB H z p=some (m,ps)) (hp:Ae P L w p u) :
  ∃A c xs,u = .slice A m c/\xs.length=m*z/\A3 P L w ps xs/\(∀x∈xs,x.oneCell'=true)/\(A=none->m=0)/\∀ad,A=some ad->∀(j:Nat) x,xs[j]?=some x->w.cell? (ad.add j)=some x:=by
 unfold DB at h;split at h
 .rename_i n c;split at h
  .rename_i hn;subst hn;injection h with h;injection h with h1 h2;subst h1;subst h2;simp only[Ae,An]at hp;subst hp;exact⟨none,c,[],rfl,by simp,by simp only[A3],by simp,λ_=>rfl,λ_ h=>by cases h⟩
  .cases h
 .rename_i m' cs;split at h
  .rename_i hl;injection h with h;injection h with h1 h2;subst h1;subst h2;simp only[Ae,An]at hp;obtain⟨a,c,rfl,hc,hI⟩:=hp;rcases hI with⟨rfl,rfl⟩ | ⟨hsp,hb,hr⟩
   .exact⟨some a,c,[],rfl,by simp,by simp only[List.map_nil,A3],by simp,(λh=>by cases h),λad e j x hx=>by simp at hx⟩
   obtain⟨b,o,sp⟩:=a;simp only at hsp hb hr;subst hsp;obtain⟨xs,hxl,hcell,h1,hrep⟩:=Bq.values hr;refine⟨some ⟨b,o,none⟩,c,xs,rfl,by omega,A3.ofT hrep,h1,(λh=>by cases h),λad e j x hx=>?_⟩;injection e with e;subst e;rw[Addr.add_lit];exact hcell j x hx
  .cases h
 .rename_i b o m' z';split at h
  .rename_i ty cs hl;split at h
   .rename_i hc;obtain⟨rfl,hc⟩:=hc;injection h with h;injection h with h1 h2;subst h1;subst h2;simp only[Ae]at hp;obtain⟨hb,hm,c,rfl,hcap,_⟩:=hp;obtain⟨xs,hxl,hcell,h1,hrep⟩:=ME (hok.rep b _ hl);refine⟨some ⟨L.μ b,o,none⟩,c,(xs.drop o).take (m'*z'),rfl,by simp;omega,hrep.drop_take o (m'*z'),λx hx=>h1 x (X8 (X7 hx)),(λh=>by cases h),λad e j x hx=>?_⟩;injection e with e;subst e;rw[Addr.add_lit];rw[Xn]at hx;split at hx
    .rw[Xu]at hx;exact hcell _ x hx
    .cases hx
   .cases h
  .cases h
 .cases h
theorem Us {α:Type} (b:Nat) (y:α):∀(H:List (Nat×α)),rem (upd H b y) b=rem H b
 | []=>rfl
 | (k,x)::r=>by
  by_cases hk:k=b
  .simp[upd,rem,hk]
  .simp[upd,rem,hk,Us b y r]
def Lq (P:Program) (H:Ab) (nx:Nat) (t:TypeId) (d x:PV):Option (PV×Ab×Nat):=
 match FB P t with
 | some (e,z,by',_)=>match DB H z x with
  | some (m,ps)=>match d with
   | .t (.v (.slice none n c))=>if n=0/\c=0 then
     (if m=0 then some (d,H,nx)else if m*by'<=140737488355328/\m<=9223372036854775807 then some (.row nx 0 m z,(nx,.cells e ps)::H,nx+1)else none)else none
   | .row b o n z'=>match Aa H b with
    | some (.cells ty cs)=>
     if z'=z/\o=0/\ty=e/\cs.length=n*z/\(n+m)*by'<=140737488355328/\n+m<=9223372036854775807 then some (.row nx 0 (n+m) z,(nx,.cells e (cs++ps))::rem H b,nx+1)else none
    | _=>none
   | _=>none
  | none=>none
 | none=>none
theorem Ut {w:World} (t ty e:TypeId) (i:TypeInfo) (ht:P.underlying t=some (.slice e)) (hi:P.info? e=some i) (b:Option Addr) (sLen sCap c:Nat) (hroom:sLen<=sCap) :
  (Builtin.append_ #[t,t] ty #[.slice b sLen sCap,.slice none 0 c]).run P w = .ok (.slice b sLen sCap) w:=by
 cases b<;>simp[Builtin.append_,run_underlying ht,sizeOf,typeInfo,hi,Builtin.lenOf,hroom,Builtin.firstCells,storeCells]
theorem kN {L:Loc} {w:World} {cs ps:List PV} {xs ys:List Value} (h:A3 P L w cs xs) (h':A3 P L w ps ys):A3 P L w (cs++ps) (xs++ys):=by
 have hl:=h.length;refine A3.mk (by simp[h.length,h'.length]) λk c x hk hx=>?_;by_cases hlt:k<cs.length
 .rw[Xc hlt]at hk;rw[Xc (by omega)]at hx;obtain⟨y,hy,hr⟩:=h.at_ k hk;rw[hy]at hx;injection hx with hx;subst hx;exact hr
 .rw[Xf (by omega)]at hk hx;rw[hl]at hx;obtain⟨y,hy,hr⟩:=h'.at_ _ hk;rw[hy]at hx;injection hx with hx;subst hx;exact hr
theorem QH {L L':Loc} {w w':World} {ty:TypeId} {g:Nat} {cs:List PV} {xs:List Value} {arr:Array Value} (hm:AO L w L' w') (hg:w'.heap[g]?=some (.cells arr ty (0,0))) (hr:A3 P L w cs xs)
  (h1:∀x∈xs,x.oneCell'=true) (hpre:∀(j:Nat) x,xs[j]?=some x->arr[j]?=some x):C9 P L' w' g (.cells ty cs):=by
 refine⟨arr,hg,?_,λj c hj=>?_⟩
 .rw[<-hr.length];rcases Nat.lt_or_ge arr.size xs.length with hlt | hge
  .have h2:xs[arr.size]?=some xs[arr.size]:=Xo hlt;have:=hpre _ _ h2;simp at this
  .exact hge
 .obtain⟨x,hx,hrr⟩:=hr.at_ j hj;exact⟨x,hpre j x hx,h1 x (Xg hx),Ae.keep hm c hrr⟩
theorem kO {t:TypeId} {x y:Operand} {r:PV} {H':Ab} {nx':Nat} (ho:o.op = .call ⟨.builtin .append,#[x,y],#[t,t]⟩)
  (h:Lq P s.H s.nx t (s.ev G x) (s.ev G y)=some (r,H',nx')):AOp P G B o s r H' nx':=λL a w hi=>by
 unfold Lq at h;split at h
 .rename_i e z by' zc he
  obtain⟨i,zv,hu,hinf,hz,rfl,rfl,rfl,hzl,hpos,hone⟩:=MN he
  have hzs:zv.cells.size=i.size:=by simpa using hzl
  split at h
  .rename_i m ps hsrc;obtain⟨A,c,xs,hyv,hxl,hxr,hx1,hnone,hcell⟩:=kM hi.heap hsrc (hi.ev y);have hxe:=hi.ev x
   have run_of:∀{v w'},(Builtin.append_ #[t,t] o.type #[a.eval x,a.eval y]).run P w = .ok v w'->(execOp a.eval o).run P w = .ok (.value v) w':=by
    intro v w' hh;simp[execOp,ho,resolve,invoke,builtin,hh]
   split at h
   .rename_i n cap hd;split at h
    .rename_i hnc;obtain⟨rfl,rfl⟩:=hnc;rw[hd]at hxe;have hxe':=hxe;simp only[Ae,An]at hxe';split at h
     .rename_i hm0;subst hm0;injection h with h;injection h with h1 h2;injection h2 with h2 h3;subst h1;subst h2;subst h3;unfold Oper.wp
      have:(Builtin.append_ #[t,t] o.type #[a.eval x,a.eval y]).run P w = .ok (.slice none 0 0) w:=by
       rw[hxe',hyv]
       cases A with
       | none=>exact Ut t o.type e i hu hinf none 0 0 c (Xa _)
       | some ad=>
        have hf:=run_firstCells_some (P:=P) w i.size 0 ad 0 c [] (by simp) (by simp);simp[Builtin.append_,run_underlying hu,sizeOf,typeInfo,hinf,Builtin.lenOf,hf]
      rw[run_of this,Oper.upon_value];refine⟨.slice none 0 0,L,rfl,by rw[hd];simp only[Ae,An],hi.heap,hi.nx,AO.refl _ _,Ext.refl _ _ _⟩
     .rename_i hm0;split at h
      .rename_i hb;injection h with h;injection h with h1 h2;injection h2 with h2 h3;subst h1;subst h2;subst h3
       cases A with
       | none=>exact absurd (hnone rfl) hm0
       | some ad=>
        have hrun:=run_append_nil (P:=P) w t o.type e i zv hu hinf hz ad m c xs hxl (hcell ad rfl) (by omega) (by omega) (by omega);rw[<-hxe',<-hyv]at hrun;unfold Oper.wp;rw[run_of hrun,Oper.upon_value];have hge:=grownCap_ge w m 0 e
        have hn:=QD (r:=.cells e ps) (w':=w.drew.alloc (.cells (xs.toArray++Builtin.zeroCells zv.cells (grownCap w m 0 e-m)) e)) (o:=.cells (xs.toArray++Builtin.zeroCells zv.cells (grownCap w m 0 e-m)) e) hi.heap ⟨rfl,rfl,rfl⟩ rfl
         (QH (MM hi.heap rfl) (heap_alloc_new w.drew _) hxr hx1 (λj q hq=>by
          have hj:j<xs.length:=(Xi.1 hq).1;rw[X9 (by simpa using hj)]
          simpa using hq))
        rw[<-hi.nx];refine⟨_,_,rfl,?_,hn.1,rfl,hn.2.1,hn.2.2⟩;simp only[Ae]
        have e1:(L.grow w.heap.size).μ L.nx=w.heap.size:=by simp[Loc.grow]
        refine⟨by simp[Loc.grow],by rw[e1];simp,grownCap w m 0 e,by rw[e1],hge,λarr ty fz hh=>?_⟩;rw[e1,show w.heap.size=w.drew.heap.size from rfl,heap_alloc_new]at hh;injection hh with hh;injection hh with hh1 hh2;rw[<-hh1];simp only[Ya,Yb,size_zeroCells,hzs,hxl];rw[<-Xp]
        have:m+(grownCap w m 0 e-m)=grownCap w m 0 e:=by omega
        rw[this];omega
      .cases h
    .cases h
   .rename_i b off n z' hd;split at h
    .rename_i ty cs hl;split at h
     .rename_i hc;obtain⟨rfl,rfl,rfl,hcl,hby,h63⟩:=hc;injection h with h;injection h with h1 h2;injection h2 with h2 h3;subst h1;subst h2;subst h3;rw[hd]at hxe;simp only[Ae]at hxe;obtain⟨hb,hμ,c0,hxv,hnc,hcap⟩:=hxe;obtain⟨olds,hol,hocell,ho1,horep⟩:=ME (hi.heap.rep b _ hl);obtain⟨arr,harr,hle,hrow⟩:=hi.heap.rep b _ hl;have hcapA:=hcap arr _ _ harr;simp only[Xs]at hcapA;have hnew:=kN horep hxr
      have hnew1:∀q∈olds++xs,q.oneCell'=true:=by
       intro q hq;rcases X6.1 hq with hq | hq
       .exact ho1 q hq
       .exact hx1 q hq
      have e1:(L.grow (L.μ b)).μ L.nx=L.μ b:=by simp[Loc.grow]
      have rowrep:∀(w':World) (cap:Nat),w'.heap.size=w.heap.size->n+m<=cap->(∀arr ty fz,w'.heap[L.μ b]?=some (.cells arr ty fz)->cap*i.size<=arr.size) ->
        Ae P (L.grow (L.μ b)) w' (.row L.nx 0 (n+m) i.size) (.slice (some ⟨L.μ b,0,none⟩) (n+m) cap):=by
       intro w' cap hs hcc hh;simp only[Ae];refine⟨by simp[Loc.grow],by rw[e1,hs];exact hμ,cap,by rw[e1],hcc,λarr ty fz he=>?_⟩;rw[e1]at he;have:=hh arr ty fz he;omega
      rw[<-hi.nx];unfold Oper.wp
      cases A with
      | none=>
       have hm0:=hnone rfl;subst hm0;have hx0:xs=[]:=Yc (by simpa using hxl);subst hx0;have hp0:ps=[]:=Yc (by simpa using hxr.length.symm);subst hp0;have hrun:=Ut (P:=P) (w:=w) t o.type _ i hu hinf (some ⟨L.μ b,0,none⟩) n c0 c hnc;rw[<-hxv,<-hyv]at hrun;rw[run_of hrun,Oper.upon_value,hxv];have hmv:=Ui hi.heap hl;rw[Yd];exact⟨_,_,rfl,rowrep w c0 rfl hnc (λarr ty fz he=>by have:=hcap arr ty fz he;omega),hmv.1,rfl,hmv.2.1,hmv.2.2⟩
      | some ad=>
       by_cases hroom:n+m<=c0
       .have hfit:n*i.size+xs.length<=arr.size:=by
         rw[hxl,<-Xp];exact Nat.le_trans (X1 _ hroom) hcapA
        have hrun:=run_append_room (P:=P) w t o.type _ i hu hinf (L.μ b) n c0 arr harr ad m c xs hxl (hcell ad rfl) hx1 hroom hfit;rw[<-hxv,<-hyv]at hrun;rw[run_of hrun,Oper.upon_value]
        have hwr:=QE (w':=w.setRow (L.μ b) (arr.toList.take (n*i.size)++xs++arr.toList.drop (n*i.size+xs.length)).toArray) (r:=.cells ty (cs++ps)) hi.heap ⟨rfl,rfl,rfl⟩ hl (by simp)
         (λg hg=>setRow_other w _ g _ hg) (Uk harr (by simp;omega))
         (λhm=>QH hm (setRow_heap w _ arr _ _ _ harr) hnew hnew1 (λj q hq=>by
          simp only[Xm];have hjl:j<(olds++xs).length:=(Xi.1 hq).1
          have holds:olds=arr.toList.take (n*i.size):=by
           apply List.ext_getElem?;intro k;rw[Xn];by_cases hk:k<n*i.size
           .rw[zy hk]
            have hk':k<olds.length:=by omega
            rw[Xo hk'];have:=hocell k _ (Xo hk');rw[cell_of_row w _ k arr _ _ harr]at this;simpa using this.symm
           .rw[zz hk,Ye (by omega)]
          rw[<-holds,Xc hjl]
          exact hq))
        have hmv:=Ui hwr.1 (r:=.cells ty (cs++ps)) (b:=b) (by rw[A9,zy rfl,hl];rfl);rw[Us]at hmv;refine⟨_,_,rfl,rowrep _ c0 (by simp) hroom (λarr' ty' fz he=>?_),hmv.1,rfl,hwr.2.1.trans hmv.2.1,hwr.2.2.trans hmv.2.2⟩;rw[setRow_heap w _ arr _ _ _ harr]at he;injection he with he;injection he with he1 he2;rw[<-he1];simp;omega
       .have hrun:=run_append_grow (P:=P) w t o.type _ i zv hu hinf hz ⟨L.μ b,0,none⟩ n c0 olds (by omega) (λj q hq=>by rw[Addr.add_lit,Xs];exact hocell j q hq) ad m c xs hxl (hcell ad rfl) (by omega) (by omega) (growslice_fits (by omega) hby);rw[<-hxv,<-hyv]at hrun;rw[run_of hrun,Oper.upon_value];have hge:=grownCap_ge w (n+m) c0 ty;have hrm:=kF b hi.heap
        have hn:=QD (r:=.cells ty (cs++ps)) (w':=w.drew.alloc (.cells (olds.toArray++xs.toArray++Builtin.zeroCells zv.cells (grownCap w (n+m) c0 ty-(n+m))) ty)) (o:=.cells (olds.toArray++xs.toArray++Builtin.zeroCells zv.cells (grownCap w (n+m) c0 ty-(n+m))) ty) hrm.1 ⟨rfl,rfl,rfl⟩ rfl
         (QH (MM hi.heap rfl) (heap_alloc_new w.drew _) hnew hnew1 (λj q hq=>by
          have hj:j<(olds++xs).length:=(Xi.1 hq).1;rw[X9 (by simpa using hj)]
          simpa using hq))
        refine⟨_,_,rfl,?_,hn.1,rfl,hn.2.1,hrm.2.trans hn.2.2⟩;simp only[Ae]
        have e1:(L.grow w.heap.size).μ L.nx=w.heap.size:=by simp[Loc.grow]
        refine⟨by simp[Loc.grow],by rw[e1];simp,grownCap w (n+m) c0 ty,by rw[e1],hge,λarr ty' fz hh=>?_⟩;rw[e1,show w.heap.size=w.drew.heap.size from rfl,heap_alloc_new]at hh;injection hh with hh;injection hh with hh1 hh2;rw[<-hh1];simp only[Ya,Yb,size_zeroCells,hzs,hxl,hol,hcl];rw[<-Xp,<-Xp]
        have:n+m+(grownCap w (n+m) c0 ty-(n+m))=grownCap w (n+m) c0 ty:=by omega
        rw[this];omega
     .cases h
    .cases h
   .cases h
  .cases h
 .cases h
end
def O6 (P:Program) (t:TypeId):Option (Nat->Option (Nat×Nat)):=
 match P.underlying t with
 | some (.array _ e)=>(P.info? e).map λi=>λk=>some (k*i.size,i.size)
 | some (.struct fields)=>(fields.toList.mapM (λf=>(P.info? f.type).map λi=>(f.offset,i.size))).map λplaces=>λk=>places[k]?
 | _=>none
def Lr (P:Program) (t:TypeId) (parts:List (Nat×PV)):Option PV:=
 match O6 P t,Gw P t with
 | some place,some zc=>(DA place (zc.map λx=>.t (.v x)) parts).map AN
 | _,_=>none
section
variable {P : Program} {G : Ay} {B : Nat} {s : Ac} {o : Oper}
theorem kP {t:TypeId} {parts:Array (Nat×Operand)} {r:PV} (ho:o.op = .build t parts) (h:Lr P t (parts.toList.map λp=>(p.1,s.ev G p.2))=some r):AOp P G B o s r s.H s.nx:=by
 refine Lj λL a w hi=>?_;unfold Lr at h;split at h
 .rename_i place zc hpl hzc
  cases hf:DA place (zc.map λx=>.t (.v x)) (parts.toList.map λp=>(p.1,s.ev G p.2))with
  | none=>rw[hf]at h;cases h
  | some cs=>
   rw[hf]at h;injection h with h;subst h;unfold Gw at hzc;split at hzc
   .rename_i it hit;split at hzc
    .rename_i z hz;split at hzc
     .rename_i h1;injection hzc with hzc;subst hzc;obtain⟨hp1,hp2⟩:=QG hi parts.toList;obtain⟨arr,hfill,hrep,h1'⟩:=O5 (L:=L) (w:=w) _ _ _ _ z.cells hp1 hp2 (Uo P L w _) (Xv.1 h1) hf
      have hpl2:(parts.map λ(k,x)=>(k,a.eval x)).toList=parts.toList.map λp=>(p.1,a.eval p.2):=by simp
      have hb:P.built t (parts.map λ(k,x)=>(k,a.eval x)).toList=some arr:=by
       unfold Program.built;unfold O6 at hpl;rw[hpl2];split at hpl
       .rename_i n e hu
        cases hie:P.info? e with
        | none=>rw[hie]at hpl;cases hpl
        | some ie=>
         rw[hie]at hpl;injection hpl with hpl;subst hpl;simp only[hit,hu,hz,hie,hfill]
       .rename_i fields hu
        cases hm:fields.toList.mapM (λf=>(P.info? f.type).map λi=>(f.offset,i.size))with
        | none=>rw[hm]at hpl;cases hpl
        | some places=>
         rw[hm]at hpl;injection hpl with hpl;subst hpl;simp only[hit,hu,hz,hm,Xm,hfill]
       .cases hpl
      have hrun:=run_build (P:=P) w t _ arr hb;refine⟨.agg arr,?_,Q8 h1' hrep⟩;simp only[execOp,ho,Sem.run_bind,hrun,Xd];rfl
     .cases hzc
    .cases hzc
   .cases hzc
 .cases h
def opV (P:Program) (H:Ab) (nx:Nat) (ev:Operand->PV) (o:Op):Option (PV×Ab×Nat):=
 match o with
 | .store t a x=>(Lo P H t (ev a) (ev x)).map λH'=>(.t (.v undef),H',nx)
 | .makeSlice t l c=>(Lp P t (ev l) (ev c) nx).map λq=>(q.1,(nx,q.2)::H,nx+1)
 | .buildSlice t len parts=>(HJ P t len (parts.toList.map λp=>(p.1,ev p.2)) nx).map λq=>(q.1,(nx,q.2)::H,nx+1)
 | .build t parts=>(Lr P t (parts.toList.map λp=>(p.1,ev p.2))).map λr=>(r,H,nx)
 | .box t x=>(B7 (ev x)).map λps=>(.ptr nx 0,(nx,.cells t ps)::H,nx+1)
 | .alloc t=>(Gw P t).map λzc=>(.ptr nx 0,(nx,.cells t (zc.map λx=>.t (.v x)))::H,nx+1)
 | .call ⟨.builtin .append,⟨[x,y]⟩,⟨[t,t']⟩⟩=>if t=t' then Lq P H nx t (ev x) (ev y)else none
 | o=>(Dd P H ev o).map λr=>(r,H,nx)
theorem kQ {r:PV} {H':Ab} {nx':Nat} (h:opV P s.H s.nx (s.ev G) o.op=some (r,H',nx')):AOp P G B o s r H' nx':=by
 unfold opV at h;split at h
 .rename_i t x y ho
  cases hs:Lo P s.H t (s.ev G x) (s.ev G y)with
  | none=>rw[hs]at h;cases h
  | some H1=>
   rw[hs]at h;injection h with h;injection h with h1 h2;injection h2 with h2 h3;subst h1;subst h2;subst h3;exact kG ho hs
 .rename_i t x y ho
  cases hs:Lp P t (s.ev G x) (s.ev G y) s.nx with
  | none=>rw[hs]at h;cases h
  | some q=>
   rw[hs]at h;injection h with h;injection h with h1 h2;injection h2 with h2 h3;subst h1;subst h2;subst h3;exact kH ho hs
 .rename_i t len parts ho
  cases hs:HJ P t len (parts.toList.map λp=>(p.1,s.ev G p.2)) s.nx with
  | none=>rw[hs]at h;cases h
  | some q=>
   rw[hs]at h;injection h with h;injection h with h1 h2;injection h2 with h2 h3;subst h1;subst h2;subst h3;exact kK ho hs
 .rename_i t parts ho
  cases hs:Lr P t (parts.toList.map λp=>(p.1,s.ev G p.2))with
  | none=>rw[hs]at h;cases h
  | some q=>
   rw[hs]at h;injection h with h;injection h with h1 h2;injection h2 with h2 h3;subst h1;subst h2;subst h3;exact kP ho hs
 .rename_i t x ho
  cases hs:B7 (s.ev G x)with
  | none=>rw[hs]at h;cases h
  | some q=>
   rw[hs]at h;injection h with h;injection h with h1 h2;injection h2 with h2 h3;subst h1;subst h2;subst h3;exact kI ho hs
 .rename_i t ho
  cases hs:Gw P t with
  | none=>rw[hs]at h;cases h
  | some q=>
   rw[hs]at h;injection h with h;injection h with h1 h2;injection h2 with h2 h3;subst h1;subst h2;subst h3;exact kJ ho hs
 .rename_i x y t t' ho;split at h
  .rename_i e;subst e;exact kO ho h
  .cases h
 .cases hs:Dd P s.H (s.ev G) o.op with
  | none=>rw[hs]at h;cases h
  | some q=>
   rw[hs]at h;injection h with h;injection h with h1 h2;injection h2 with h2 h3;subst h1;subst h2;subst h3;exact kE hs
end
def JP (P:Program) (f:FuncId):Prop:=∃fn c,P.funcs[f]?=some fn/\fn.body=some c/\(fn.name == "runtime.NumGoroutine")=false
theorem JP.run {P:Program} {f:FuncId} (h:JP P f) (args:Array Value) (w:World):(callFunc f args).run P w = .ok (.enter f args) w:=by
 obtain⟨fn,c,hf,hb,hn⟩:=h
 have hn':¬fn.name = "runtime.NumGoroutine":=by simpa using hn
 simp[callFunc,hf,hn',hb]
def AA (P:Program) (G:Ay) (f:FuncId) (args:List T) (R:T->Prop):Prop:=
 JP P f/\∀(I:Nat->Prop) (w:World) (us:Array Value),(∀b,I b->b<w.heap.size)->(∀g cs,Aa G g=some cs->I g/\Ev I w cs g)->Ba I w args us.toList ->
  Calls P f us w λe w'=>∃v r I',e = .returned v/\R r/\An I' w' r v/\BL w w'/\w.heap.size<=w'.heap.size/\(∀g,g<w.heap.size->w'.heap[g]?=w.heap[g]?) /\
   (∀g,I g->I' g)/\(∀g,I' g->I g\/w.heap.size<=g)/\(∀g,I' g->g<w'.heap.size)
theorem AA.mono {P:Program} {G:Ay} {f:FuncId} {args:List T} {R R':T->Prop} (h:AA P G f args R) (hr:∀r,R r->R' r):AA P G f args R':=
 ⟨h.1,λI w us h1 h2 h3=>(h.2 I w us h1 h2 h3).mono λ_ _ ⟨v,r,I',he,hR,AY⟩=>⟨v,r,I',he,hr r hR,AY⟩⟩
mutual
@[simp] def toT (H:Ab):PV->Option (T×List Nat)
 | .t x=>some (x,[])
 | .row b o n z=>match Aa H b with
  | some (.cells _ cs)=>if o+n*z<=cs.length then(Ee ((cs.drop o).take (n*z))).map λts=>(.sl n ts,[b])else none
  | _=>none
 | .ag cs=>(Cx H cs).map λq=>(.ag q.1,q.2)
 | .tu cs=>(Cx H cs).map λq=>(.tu q.1,q.2)
 | _=>none
@[simp] def Cx (H:Ab):List PV->Option (List T×List Nat)
 | []=>some ([],[])
 | p::ps=>match toT H p,Cx H ps with
  | some (x,F),some (xs,F')=>some (x::xs,F++F')
  | _,_=>none
end
def HL (L:Loc) (H:Ab) (F:List Nat) (g:Nat):Prop:=∃b∈F,(∃r,Aa H b=some r)/\L.μ b=g
section
variable {P : Program} {G : Ay} {L : Loc} {H : Ab} {w : World}
theorem Bq.ofRow {I:Nat->Prop} {g:Nat} {ts:List T}:∀{o:Nat} {xs:List Value},(∀(j:Nat) x,xs[j]?=some x->w.cell? ⟨g,o+j,none⟩=some x/\x.oneCell'=true)->Ba I w ts xs->Bq I w ts g o:=by
 intro o xs hc hr;refine Bq.mk λk c hk=>?_;obtain⟨x,hx,h⟩:=hr.at_ k hk;exact⟨x,(hc k x hx).1,(hc k x hx).2,h⟩
theorem O7 {I I':Nat->Prop} (h:∀g,I g->I' g):F7 I I' w w:=λb hb=>⟨h b hb,rfl⟩
mutual
theorem QI (hok:Bx P G L H w):∀(p:PV) {x:T} {F:List Nat} {u:Value},toT H p=some (x,F)->Ae P L w p u->∀F',(∀b∈F,b∈F')->An (λg=>L.I g\/HL L H F' g) w x u
 | .t x,y,F,u,h,hr,F',_=>by
  simp only[toT,Xb.injEq,Prod.mk.injEq]at h;obtain⟨rfl,rfl⟩:=h;simp only[Ae]at hr;exact An.keep (O7 λg hg=>.inl hg) _ hr
 | .row b o n z,y,F,u,h,hr,F',hF=>by
  simp only[toT]at h;split at h
  .rename_i ty cs hl;split at h
   .rename_i hb
    cases ha:Ee ((cs.drop o).take (n*z))with
    | none=>rw[ha]at h;cases h
    | some ts=>
     rw[ha]at h;injection h with h;injection h with h1 h2;subst h1;subst h2;simp only[Ae]at hr;obtain⟨hb',hμ,c,rfl,hc,_⟩:=hr;obtain⟨xs,hxl,hcell,h1,hrep⟩:=ME (hok.rep b _ hl);have hseg:=hrep.drop_take o (n*z);rw[Gu ha]at hseg;have hT:=hseg.toT;simp only[An];refine⟨⟨L.μ b,o,none⟩,c,rfl,hc,.inr ⟨rfl,.inr ⟨b,hF b (by simp),⟨_,hl⟩,rfl⟩,?_⟩⟩;have hT':=Ba.keep (O7 (I:=L.I) (I':=λg=>L.I g\/HL L H F' g) (w:=w) λg hg=>.inl hg) ts hT;refine Bq.ofRow (xs:=(xs.drop o).take (n*z)) (λj x hx=>?_) hT';rw[Xn]at hx;split at hx
     .rw[Xu]at hx;exact⟨hcell _ x hx,h1 x (Xg hx)⟩
     .cases hx
   .cases h
  .cases h
 | .ag cs,y,F,u,h,hr,F',hF=>by
  simp only[toT]at h
  cases hq:Cx H cs with
  | none=>rw[hq]at h;cases h
  | some q=>
   rw[hq]at h;injection h with h;injection h with h1 h2;subst h1;subst h2;simp only[Ae]at hr;obtain⟨us,rfl,h1,hl⟩:=hr;simp only[An];exact⟨us,rfl,h1,MQ hok cs hq hl F' hF⟩
 | .tu cs,y,F,u,h,hr,F',hF=>by
  simp only[toT]at h
  cases hq:Cx H cs with
  | none=>rw[hq]at h;cases h
  | some q=>
   rw[hq]at h;injection h with h;injection h with h1 h2;subst h1;subst h2;simp only[Ae]at hr;obtain⟨us,rfl,hl⟩:=hr;simp only[An];exact⟨us,rfl,MQ hok cs hq hl F' hF⟩
 | .ptr _ _,_,_,_,h,_,_,_=>by simp[toT]at h
 | .fn _ _ _,_,_,_,h,_,_,_=>by simp[toT]at h
 | .ic _ _,_,_,_,h,_,_,_=>by simp[toT]at h
 | .mp _,_,_,_,h,_,_,_=>by simp[toT]at h
 | .dead,_,_,_,h,_,_,_=>by simp[toT]at h
theorem MQ (hok:Bx P G L H w):∀(ps:List PV) {q:List T×List Nat} {us:List Value},Cx H ps=some q->A3 P L w ps us->∀F',(∀b∈q.2,b∈F')->Ba (λg=>L.I g\/HL L H F' g) w q.1 us
 | [],q,us,h,hr,F',_=>by
  simp only[Cx,Xb.injEq]at h;subst h;simp only[A3]at hr;simp only[Ba];exact hr
 | p::ps,q,us,h,hr,F',hF=>by
  simp only[Cx]at h;split at h
  .rename_i x F xs F2 hx hxs;injection h with h;subst h;simp only[A3]at hr;obtain⟨u,us',rfl,h1,h2⟩:=hr;simp only[Ba];exact⟨u,us',rfl,QI hok p hx h1 F' (λb hb=>hF b (by simp[hb])),MQ hok ps hxs h2 F' (λb hb=>hF b (by simp[hb]))⟩
  .cases h
end
@[simp] def Dl (H:Ab) (F:List Nat):Ab:=F.foldl rem H
theorem Ef:∀(F:List Nat) (H:Ab) (k:Nat) (r:Row),Aa (Dl H F) k=some r->Aa H k=some r/\k∉F
 | [],H,k,r,h=>⟨h,by simp⟩
 | b::F,H,k,r,h=>by
  have h':Aa (Dl (rem H b) F) k=some r:=h;obtain⟨h1,h2⟩:=Ef F (rem H b) k r h';rw[Cr]at h1;split at h1
  .cases h1
  .rename_i hne;exact⟨h1,by simp[hne,h2]⟩
def CE:T->Bool
 | .v _=>true
 | .tu [.v _,.v _]=>true
 | _=>false
theorem Uu {I I':Nat->Prop} {w w':World} {x:T} {u:Value} (h:CE x=true) (hr:An I w x u):An I' w' x u:=by
 cases x with
 | v x=>simpa only[An]using hr
 | tu cs=>
  cases cs with
  | nil=>simp[CE]at h
  | cons a cs=>cases cs with
   | nil=>cases a<;>simp[CE]at h
   | cons b cs=>cases cs with
    | nil=>cases a<;>cases b<;>first | (simp[CE]at h;done) | (simp only[An,Ba]at hr ⊢;exact hr)
    | cons c cs=>cases a<;>simp[CE]at h
 | _=>simp[CE]at h
theorem kR {B:Nat} {s:Ac} {o:Oper} {f:FuncId} {args:Array Operand} {ts:Array TypeId} {targs:List T} {F:List Nat} {r:T} (ho:o.op = .call ⟨.value (.func f),args,ts⟩)
  (hT:Cx s.H (args.toList.map (s.ev G))=some (targs,F)) (hc:AA P G f targs (· = r)) :
  AOp P G B o s (.t r) (if CE r then s.H else Dl s.H F) s.nx:=λL a w hi=>by
 have hargs:A3 P L w (args.toList.map (s.ev G)) (args.map a.eval).toList:=by
  refine A3.mk (by simp) λk c x hk hx=>?_;simp only[Xk,Xx]at hk hx
  cases ha:args.toList[k]? with
  | none=>rw[ha]at hk;cases hk
  | some q=>
   rw[ha]at hk hx;injection hk with hk;injection hx with hx;subst hk;subst hx;exact hi.ev q
 have hrep:=MQ hi.heap _ hT hargs F (λb hb=>hb);unfold Oper.wp
 have hrun:(execOp a.eval o).run P w = .ok (.enter f (args.map a.eval)) w:=by
  simp[execOp,ho,resolve,Act.eval,Deferred.ofValue,invoke,hc.1.run]
 rw[hrun,Oper.upon_enter]
 have hlt:∀b,(L.I b\/HL L s.H F b)->b<w.heap.size:=by
  rintro b (h | ⟨k,_,⟨r,hr⟩,rfl⟩)
  .exact hi.heap.lt b h
  .exact(hi.heap.rep k r hr).lt
 refine(hc.2 _ w _ hlt (λg cs hg=>⟨.inl (hi.heap.glob g cs hg).1,Ev.keep (O7 λg hg=>.inl hg) (hi.heap.glob g cs hg).1 (hi.heap.glob g cs hg).2⟩) hrep).mono ?_;rintro e w' ⟨v,r',I',rfl,rfl,hv,hout,hsz,hsame,hmore,hnew,hltI⟩
 have hshape:BT w w':=λg hg arr ty fz he=>⟨arr,fz,by rw[<-hsame g hg];exact he,rfl⟩
 by_cases hp:CE r'=true
 .rw[zy hp]
  have hm:AO L w L w':=⟨λb hb=>⟨hb,hsame b (hi.heap.lt b hb)⟩,Xa _,λ_ _=>rfl,hsz,hshape⟩
  refine⟨v,L,rfl,by simp only[Ae];exact Uu hp hv,?_,hi.nx,hm,?_⟩
  .exact⟨λb hb=>Xy (hi.heap.lt b hb) hsz,λb r hb=>(hi.heap.rep b r hb).keep hm (hsame _ (hi.heap.rep b r hb).lt),hi.heap.apart,hi.heap.inj,hi.heap.nx,ER hi.heap hm.keeps⟩
  .exact⟨hsz,λg hg _=>hsame g hg,λ_ h=>h,λ_ h=>.inl h,λ_ h=>.inr h,hshape,hout⟩
 .rw[zz hp]
  have hm:AO L w { L with I:=I' } w':=⟨λb hb=>⟨hmore b (.inl hb),hsame b (hi.heap.lt b hb)⟩,Xa _,λ_ _=>rfl,hsz,hshape⟩
  refine⟨v,{ L with I:=I' },rfl,by simp only[Ae];exact hv,?_,hi.nx,hm,?_⟩
  .refine⟨hltI,λb r hb=>?_,λb r hb hI=>?_,λb b' r r' hb hb'=>?_,λb r hb=>?_,ER hi.heap hm.keeps⟩
   .have hb':=(Ef F s.H b r hb).1;exact(hi.heap.rep b r hb').keep hm (hsame _ (hi.heap.rep b r hb').lt)
   .obtain⟨hb',hnF⟩:=Ef F s.H b r hb;rcases hnew _ hI with(h | ⟨k,hk,⟨r2,hr2⟩,e⟩) | h
    .exact hi.heap.apart b r hb' h
    .exact hnF ((hi.heap.inj k b r2 r hr2 hb' e)▸hk)
    .have:=(hi.heap.rep b r hb').lt;exact absurd this (by have h':w.heap.size<=L.μ b:=h;omega)
   .exact hi.heap.inj b b' r r' (Ef F s.H b r hb).1 (Ef F s.H b' r' hb').1
   .exact hi.heap.nx b r (Ef F s.H b r hb).1
  .refine⟨hsz,λg hg _=>hsame g hg,λg h=>hmore g (.inl h),λg h=>?_,λg ⟨k,r,hk,e⟩=>.inr ⟨k,r,(Ef F s.H k r hk).1,e⟩,hshape,hout⟩;rcases hnew g h with(h | ⟨k,_,⟨r2,hr2⟩,e⟩) | h
   .exact .inl h
   .exact .inr (.inr ⟨k,r2,hr2,e⟩)
   .exact .inr (.inl h)
end
def FX (P:Program) (s:Ac):List ResultVar->Option (List PV)
 | []=>some []
 | .tmp t::r=>match Aa s.env t,FX P s r with
  | some p,some ps=>some (p::ps)
  | _,_=>none
 | .cell a t::r=>match Aa s.env a,FX P s r with
  | some (.ptr b o),some ps=>(JM P s.H t (.ptr b o)).map (· :: ps)
  | _,_=>none
def IU (P:Program) (fn:Func) (s:Ac):Option PV:=
 match FX P s fn.results.toList with
 | some [p]=>some p
 | some ps=>some (match Ee ps with | some ts=>.t (.tu ts) | none=>.tu ps)
 | none=>none
section
variable {P : Program} {G : Ay} {B : Nat} {L : Loc} {s : Ac} {a : Act} {w : World}
def MR (tmps:Array Value):ResultVar->Sem Value
 | .tmp t=>pure (tmps.getD t undef)
 | .cell a t=>do loadVar t (<-asAddr (tmps.getD a undef))
theorem kS (fn:Func) (tmps:Array Value):results fn tmps=(do let vs <-fn.results.mapM (MR tmps);pure (if h:vs.size=1 then vs[0]else .tuple vs)):=by
 unfold results;congr 2
theorem QJ (hi:Interp P G B L s a w):∀(rs:List ResultVar) {ps:List PV},FX P s rs=some ps ->
  ∃vs:List Value,(rs.mapM (MR a.tmps)).run P w = .ok vs w/\A3 P L w ps vs
 | [],ps,h=>by
  simp only[FX,Xb.injEq]at h;subst h;exact⟨[],by simp,by simp only[A3]⟩
 | .tmp t::r,ps,h=>by
  simp only[FX]at h;split at h
  .rename_i p ps' hl hr;injection h with h;subst h;obtain⟨vs,hrun,hrep⟩:=QJ hi r hr;refine⟨a.tmps.getD t undef::vs,?_,by simp only[A3];exact⟨_,_,rfl,hi.env t p hl,hrep⟩⟩;rw[Yf];simp only[MR,Sem.run_bind,Sem.run_pure,Xd,hrun]
  .cases h
 | .cell x t::r,ps,h=>by
  simp only[FX]at h;split at h
  .rename_i b o ps' hl hr
   cases hv:JM P s.H t (.ptr b o)with
   | none=>rw[hv]at h;cases h
   | some q=>
    rw[hv]at h;injection h with h;subst h;obtain⟨vs,hrun,hrep⟩:=QJ hi r hr;have hx:=hi.env x _ hl;obtain⟨v,hload,hvr⟩:=Ub hi.heap hv hx;have hx':=hx;simp only[Ae]at hx';refine⟨v::vs,?_,by simp only[A3];exact⟨_,_,rfl,hvr,hrep⟩⟩;rw[Yf]
    have hload':(MR a.tmps (.cell x t)).run P w = .ok v w:=by
     rw[hx'.2]at hload;simp only[MR,hx'.2,asAddr];simpa[Instr.loadAt,Instr.sureAddr]using hload
    simp only[Sem.run_bind,hload',Xd,hrun,Sem.run_pure]
  .cases h
theorem QK {fn:Func} {p:PV} (hi:Interp P G B L s a w) (h:IU P fn s=some p):∃v,(results fn a.tmps).run P w = .ok v w/\Ae P L w p v:=by
 unfold IU at h
 have key:∀{ps},FX P s fn.results.toList=some ps->∃vs:Array Value,(results fn a.tmps).run P w = .ok (if h:vs.size=1 then vs[0]else .tuple vs) w/\A3 P L w ps vs.toList:=by
  intro ps hps;obtain⟨vs,hrun,hrep⟩:=QJ hi _ hps;refine⟨vs.toArray,?_,by simpa using hrep⟩;rw[kS,Array.mapM_eq_mapM_toList];simp[hrun]
 split at h
 .rename_i q hq;injection h with h;subst h;obtain⟨vs,hrun,hrep⟩:=key hq;simp only[A3]at hrep;obtain⟨x,xs,e,hx,rfl⟩:=hrep
  have hvs:vs = #[x]:=by cases vs;simpa using e
  subst hvs;exact⟨x,by simpa using hrun,hx⟩
 .rename_i ps hne hq;injection h with h;subst h;obtain⟨vs,hrun,hrep⟩:=key hq;have hl:=hrep.length
  have h1:¬vs.size=1:=by
   intro h1
   have:ps.length=1:=by rw[<-hl];simpa using h1
   match ps,this with
   | [q],_=>exact hne q rfl
  rw[dif_neg h1]at hrun;refine⟨.tuple vs,hrun,?_⟩
  cases ha:Ee ps with
  | none=>simp only[Ae];exact⟨vs,rfl,hrep⟩
  | some ts=>
   have:=Gu ha;subst this;simp only[Ae,An];exact⟨vs,rfl,hrep.toT⟩
 .cases h
theorem MS:∀(args:List PV) (k j:Nat) (p:PV),Aa ((args.zipIdx j).map (λq=>(q.2,q.1))) k=some p->j<=k/\args[k-j]?=some p
 | [],k,j,p,h=>by simp[Aa]at h
 | x::args,k,j,p,h=>by
  simp only[X2,X4,Aa]at h;by_cases e:j=k
  .rw[zy e]at h;subst e;simpa using h
  .rw[zz e]at h;obtain⟨h1,h2⟩:=MS args k (j+1) p h;refine⟨by omega,?_⟩;rw[show k-j=(k-(j+1))+1 by omega];simpa using h2
end
def AB (P:Program) (G:Ay) (f:FuncId) (ps:List PV) (H:Ab) (nx:Nat) (r:PV) (H':Ab) (nx':Nat):Prop:=
 JP P f/\∀(L:Loc) (w:World) (us:Array Value),Bx P G L H w->L.nx=nx->A3 P L w ps us.toList ->
  Calls P f us w λe w'=>∃v L',e = .returned v/\Ae P L' w' r v/\Bx P G L' H' w'/\L'.nx=nx'/\AO L w L' w'/\Ext L H w L' H' w'
theorem A3.append {P:Program} {L:Loc} {w:World}:∀{ps qs:List PV} {us vs:List Value},A3 P L w ps us->A3 P L w qs vs->A3 P L w (ps++qs) (us++vs)
 | [],qs,us,vs,h,h'=>by simp only[A3]at h;subst h;simpa using h'
 | p::ps,qs,us,vs,h,h'=>by
  simp only[A3]at h;obtain⟨x,xs,rfl,hx,hxs⟩:=h;simp only[List.cons_append,A3];exact⟨x,xs++vs,rfl,hx,A3.append hxs h'⟩
section
variable {P : Program} {G : Ay} {B : Nat} {s : Ac} {o : Oper} {f : FuncId} {r : PV} {H' : Ab} {nx' : Nat}
theorem O8 {L:Loc} {a:Act} {w:World} (hi:Interp P G B L s a w) (args:Array Operand):A3 P L w (args.toList.map (s.ev G)) (args.map a.eval).toList:=by
 refine A3.mk (by simp) λk c x hk hx=>?_;simp only[Xk,Xx]at hk hx
 cases ha:args.toList[k]? with
 | none=>rw[ha]at hk;cases hk
 | some q=>
  rw[ha]at hk hx;injection hk with hk;injection hx with hx;subst hk;subst hx;exact hi.ev q
theorem QL {ps:List PV} (hc:AB P G f ps s.H s.nx r H' nx')
  (hrun:∀L a w,Interp P G B L s a w->∃us:Array Value,(execOp a.eval o).run P w = .ok (.enter f us) w/\A3 P L w ps us.toList):AOp P G B o s r H' nx':=λL a w hi=>by
 obtain⟨us,hr,hrep⟩:=hrun L a w hi;unfold Oper.wp;rw[hr,Oper.upon_enter];refine(hc.2 L w us hi.heap hi.nx hrep).mono ?_;rintro e w' ⟨v,L',rfl,hv,hok,hnx,hm,hx⟩;exact⟨v,L',rfl,hv,hok,hnx,hm,hx⟩
theorem kT {args:Array Operand} {ts:Array TypeId} (ho:o.op = .call ⟨.value (.func f),args,ts⟩) (hc:AB P G f (args.toList.map (s.ev G)) s.H s.nx r H' nx'):AOp P G B o s r H' nx':=
 QL hc λL a w hi=>⟨args.map a.eval,by simp[execOp,ho,resolve,Act.eval,Deferred.ofValue,invoke,hc.1.run],O8 hi args⟩
theorem kU {x:Operand} {args:Array Operand} {ts:Array TypeId} (ho:o.op = .call ⟨.value x,args,ts⟩) (hx:s.ev G x = .t (.v (.func (.func f) #[] #[]))) (hc:AB P G f (args.toList.map (s.ev G)) s.H s.nx r H' nx'):AOp P G B o s r H' nx':=
 QL hc λL a w hi=>by
  have:=hi.ev x;rw[hx]at this;simp only[Ae,An]at this;exact⟨args.map a.eval,by simp[execOp,ho,resolve,this,Deferred.ofValue,invoke,hc.1.run],O8 hi args⟩
theorem kV {x:Operand} {args:Array Operand} {ts:Array TypeId} {first cap:List PV} (ho:o.op = .call ⟨.value x,args,ts⟩) (hx:s.ev G x = .fn (.func f) first cap)
  (hc:AB P G f (first++args.toList.map (s.ev G)++cap) s.H s.nx r H' nx'):AOp P G B o s r H' nx':=
 QL hc λL a w hi=>by
  have:=hi.ev x;rw[hx]at this;simp only[Ae]at this;obtain⟨us,vs,e,h1,h2⟩:=this;refine⟨us++args.map a.eval++vs,by simp[execOp,ho,resolve,e,Deferred.ofValue,invoke,hc.1.run],?_⟩;have:=(h1.append (O8 hi args)).append h2;simpa using this
end
theorem AA.callP {P:Program} {G:Ay} {f:FuncId} {H:Ab} {nx:Nat} {ps:List PV} {targs:List T} {F:List Nat} {r:T} (hT:Cx H ps=some (targs,F)) (hc:AA P G f targs (· = r)) :
  AB P G f ps H nx (.t r) (if CE r then H else Dl H F) nx:=by
 refine⟨hc.1,λL w us hheap hnx hargs=>?_⟩;have hrep:=MQ hheap _ hT hargs F (λb hb=>hb)
 have hlt:∀b,(L.I b\/HL L H F b)->b<w.heap.size:=by
  rintro b (h | ⟨k,_,⟨r,hr⟩,rfl⟩)
  .exact hheap.lt b h
  .exact(hheap.rep k r hr).lt
 refine(hc.2 _ w us hlt (λg cs hg=>⟨.inl (hheap.glob g cs hg).1,Ev.keep (O7 λg hg=>.inl hg) (hheap.glob g cs hg).1 (hheap.glob g cs hg).2⟩) hrep).mono ?_;rintro e w' ⟨v,r',I',rfl,rfl,hv,hout,hsz,hsame,hmore,hnew,hltI⟩
 have hshape:BT w w':=λg hg arr ty fz he=>⟨arr,fz,by rw[<-hsame g hg];exact he,rfl⟩
 by_cases hp:CE r'=Bool.true
 .rw[zy hp]
  have hm:AO L w L w':=⟨λb hb=>⟨hb,hsame b (hheap.lt b hb)⟩,Xa _,λ_ _=>rfl,hsz,hshape⟩
  refine⟨v,L,rfl,by simp only[Ae];exact Uu hp hv,?_,hnx,hm,?_⟩
  .exact⟨λb hb=>Xy (hheap.lt b hb) hsz,λb r hb=>(hheap.rep b r hb).keep hm (hsame _ (hheap.rep b r hb).lt),hheap.apart,hheap.inj,hheap.nx,ER hheap hm.keeps⟩
  .exact⟨hsz,λg hg _=>hsame g hg,λ_ h=>h,λ_ h=>.inl h,λ_ h=>.inr h,hshape,hout⟩
 .rw[zz hp]
  have hm:AO L w { L with I:=I' } w':=⟨λb hb=>⟨hmore b (.inl hb),hsame b (hheap.lt b hb)⟩,Xa _,λ_ _=>rfl,hsz,hshape⟩
  refine⟨v,{ L with I:=I' },rfl,by simp only[Ae];exact hv,?_,hnx,hm,?_⟩
  .refine⟨hltI,λb r hb=>?_,λb r hb hI=>?_,λb b' r r' hb hb'=>?_,λb r hb=>?_,ER hheap hm.keeps⟩
   .have hb':=(Ef F H b r hb).1;exact(hheap.rep b r hb').keep hm (hsame _ (hheap.rep b r hb').lt)
   .obtain⟨hb',hnF⟩:=Ef F H b r hb;rcases hnew _ hI with(h | ⟨k,hk,⟨r2,hr2⟩,e⟩) | h
    .exact hheap.apart b r hb' h
    .exact hnF ((hheap.inj k b r2 r hr2 hb' e)▸hk)
    .have:=(hheap.rep b r hb').lt;exact absurd this (by have h':w.heap.size<=L.μ b:=h;omega)
   .exact hheap.inj b b' r r' (Ef F H b r hb).1 (Ef F H b' r' hb').1
   .exact hheap.nx b r (Ef F H b r hb).1
  .refine⟨hsz,λg hg _=>hsame g hg,λg h=>hmore g (.inl h),λg h=>?_,λg ⟨k,r,hk,e⟩=>.inr ⟨k,r,(Ef F H k r hk).1,e⟩,hshape,hout⟩;rcases hnew g h with(h | ⟨k,_,⟨r2,hr2⟩,e⟩) | h
   .exact .inl h
   .exact .inr (.inr ⟨k,r2,hr2,e⟩)
   .exact .inr (.inl h)
structure AC where
 t:FuncId->List T->Option T
 h:FuncId->List PV->Ab->Nat->Option (PV×Ab×Nat)
instance:CoeFun AC (λ_=>FuncId->List T->Option T):=⟨AC.t⟩
structure AC.Sound (P:Program) (G:Ay) (Φ:AC):Prop where
 t:∀f args r,Φ.t f args=some r->AA P G f args (· = r)
 h:∀f ps H nx r H' nx',Φ.h f ps H nx=some (r,H',nx')->AB P G f ps H nx r H' nx'
 fresh:∀f ps H nx r H' nx',Φ.h f ps H nx=some (r,H',nx')->(∀b x,Aa H b=some x->b<nx)->∀b x,Aa H' b=some x->b<nx'
def Uv (P:Program) (t:TypeId):Bool:=
 match P.underlying t with
 | some (.pointer _) | some (.func _ _ _) | some (.map _ _)=>true
 | _=>false
def hot:List Nat:=[38,39,177,199,36,31,61,63,103,33]
def wet:List Nat:=[34]
def kW:List Nat:=[51]
def O9 (Φ:AC) (H:Ab) (nx:Nat) (fv:PV) (ps:List PV):Option (PV×Ab×Nat):=
 match fv with
 | .t (.v (.func (.func f) ⟨[]⟩ ⟨[]⟩))=>Φ.h f ps H nx
 | .fn (.func f) first cap=>Φ.h f (first++ps++cap) H nx
 | _=>none
def Ce (P:Program) (G:Ay) (Φ:AC) (s:Ac) (o:Op):Option (PV×Ab×Nat):=
 match o with
 | .call ⟨.value (.func f),args,ts⟩=>if ts.toList.any (Uv P)||hot.contains f then Φ.h f (args.toList.map (s.ev G)) s.H s.nx else
  (match Cx s.H (args.toList.map (s.ev G))with
  | some (targs,F)=>match Φ f targs with
   | some r=>some (.t r,if F.isEmpty then s.H else if CE r then s.H else Dl s.H F,s.nx)
   | none=>none
  | none=>none)
 | .call ⟨.value x,args,_⟩=>O9 Φ s.H s.nx (s.ev G x) (args.toList.map (s.ev G))
 | o=>opV P s.H s.nx (s.ev G) o
section
variable {P : Program} {G : Ay} {B : Nat} {s : Ac} {o : Oper} {Φ : AC}
theorem kX (hΦ:Φ.Sound P G) {r:PV} {H':Ab} {nx':Nat} (h:Ce P G Φ s o.op=some (r,H',nx')):AOp P G B o s r H' nx':=by
 unfold Ce at h;split at h
 .rename_i f args ts ho;split at h
  .exact kT ho (hΦ.h _ _ _ _ _ _ _ h)
  .split at h
   .rename_i targs F hT;split at h
    .rename_i q hq;injection h with h;injection h with h1 h2;injection h2 with h2 h3;subst h1;subst h3;have:=kR (B:=B) ho hT (hΦ.t f targs q hq)
     cases hF:F.isEmpty with
     | true=>
      have:F=[]:=by simpa using hF
      subst this;simp only[List.isEmpty_nil,if_true]at h2;subst h2;rename_i this
      have e:(if CE q=true then s.H else Dl s.H [])=s.H:=by split<;>rfl
      rw[e]at this;exact this
     | false=>
      rw[hF]at h2;simp only[X5,if_false]at h2;subst h2;exact this
    .cases h
   .cases h
 .rename_i x args ts hne ho;unfold O9 at h;split at h
  .rename_i f hx;exact kU ho hx (hΦ.h _ _ _ _ _ _ _ h)
  .rename_i f first cap hx
   exact kV ho hx (hΦ.h _ _ _ _ _ _ _ h)
  .cases h
 .exact kQ h
end
def Dm:List Oper->List Nat->List Nat
 | [],acc=>acc
 | o::AY,acc=>Dm AY (acc++[(o.after.toList.filter (Region.binds .any)).foldl (λm e=>m|||2^e.on|||acc.getD e.on 0) 0])
section
variable {ops : Array Oper}
def HM (ops:Array Oper) (S:Array Bool):Prop:=∀(i:Nat) o,ops[i]?=some o->S.getD i false=true->∀e∈o.after.toList,Region.binds .any e=true->S.getD e.on false=true
theorem Uw (acc:List Nat) (i:Nat):∀(es:List Edge) (m:Nat),(es.foldl (λm e=>m|||2^e.on|||acc.getD e.on 0) m).testBit i=true->m.testBit i=true\/∃e∈es,e.on=i\/(acc.getD e.on 0).testBit i=true
 | [],m,h=>.inl h
 | e::es,m,h=>by
  simp only[X3]at h;rcases Uw acc i es _ h with h | ⟨e',he',h⟩
  .simp only[Nat.testBit_or,Bool.or_eq_true]at h;rcases h with(h | h) | h
   .exact .inl h
   .rw[Nat.testBit_two_pow]at h;exact .inr ⟨e,by simp,.inl (by simpa using h)⟩
   .exact .inr ⟨e,by simp,.inr h⟩
  .exact .inr ⟨e',by simp[he'],h⟩
theorem Ux {S:Array Bool} (hS:HM ops S):∀(AY done:List Oper) (acc:List Nat),ops.toList=done++AY->acc.length=done.length ->
  (∀(j:Nat) i o,done[j]?=some o->(acc.getD j 0).testBit i=true->(∀e∈o.after.toList,Region.binds .any e=true->S.getD e.on false=true)->S.getD i false=true) ->
  ∀(j:Nat) i o,ops[j]?=some o->((Dm AY acc).getD j 0).testBit i=true->(∀e∈o.after.toList,Region.binds .any e=true->S.getD e.on false=true)->S.getD i false=true
 | [],done,acc,he,hl,h=>by
  intro j i o ho hb hp;refine h j i o ?_ hb hp
  have:ops.toList[j]?=some o:=by simpa using ho
  rwa[he,Yd]at this
 | q::AY,done,acc,he,hl,h=>by
  refine Ux hS AY (done++[q]) _ (by simp[he]) (by simp[hl]) ?_;intro j i o ho hb hp;by_cases hj:j<done.length
  .rw[Xc hj]at ho;rw[Xj,Xc (by omega),<-Xj]at hb;exact h j i o ho hb hp
  .have hj2:j=done.length:=by
    have:=(Xi.1 ho).1;simp at this;omega
   subst hj2;simp only[Xf (Xa _),Nat.sub_self,Yg,Xb.injEq]at ho;subst ho;rw[Xj,<-hl,Xf (Xa _)]at hb;simp only[Nat.sub_self,Yg,Option.getD_some]at hb;rcases Uw acc i _ 0 hb with hb | ⟨e,he',hb⟩
   .simp at hb
   .obtain⟨he1,he2⟩:=List.mem_filter.1 he';have hpe:=hp e he1 he2;rcases hb with rfl | hb
    .exact hpe
    .
     by_cases hlt:e.on<done.length
     .obtain⟨oe,hoe⟩:∃oe,done[e.on]?=some oe:=⟨_,Xo hlt⟩
      refine h e.on i oe hoe hb ?_;refine hS e.on oe ?_ hpe
      have:ops.toList[e.on]?=some oe:=by rw[he,Xc hlt];exact hoe
      simpa using this
     .rw[Xj,Ye (by omega)]at hb;simp at hb
theorem Ls {S:Array Bool} (hS:HM ops S) {i j:Nat} {o:Oper} (ho:ops[j]?=some o) (hb:((Dm ops.toList []).getD j 0).testBit i=true)
  (hp:∀e∈o.after.toList,Region.binds .any e=true->S.getD e.on false=true):S.getD i false=true:=
 Ux hS ops.toList [] [] (by simp) rfl (by simp) j i o ho hb hp
end
inductive Opd where
 | tmp (t:Nat)
 | k (p:PV)
@[simp] def Opd.ev (env:List (Nat×PV)):Opd->PV
 | .tmp t=>(Aa env t).getD .dead
 | .k p=>p
def AP (G:Ay):Operand->Opd
 | .tmp t=>.tmp t
 | .const x=>.k (Oy x)
 | .global g=>.k (match Aa G g with
  | some cs=>.t (.pt cs)
  | none=>.t (.v (.pointer (some ⟨g,0,none⟩))))
 | .func f=>.k (.t (.v (.func (.func f) #[] #[])))
theorem JQ (G:Ay) (s:Ac) (x:Operand):(AP G x).ev s.env=s.ev G x:=by cases x<;>rfl
inductive NK where
 | sl | ifc | ptr | fn | mp
inductive CK where
 | i | s | b
inductive EK where
 | eqs (neg:Bool) (ks:List CK)
 | mki (t:Nat)
 | mkf (f:Fn) (n:Nat)
 | aix (len n:Nat) (agg:Bool)
inductive HK where
 | range
 | next
 | b2s
 | pan
 | mnew (kk:KK)
 | mget (kk:KK) (z:Value) (ok:Bool)
 | mset (kk:KK)
 | clr (n:Nat) (zc:List Value)
 | mlen
 | s2b
 | cpy (n:Nat)
 | slarr (len z:Nat)
 | mrange
 | mnext
 | ment
inductive MK where
 | mv
 | pick
 | bin (isB:Bool) (op:BinOp) (nk:Option NK)
 | un (op:UnOp)
 | conv (k:Option IntKind)
 | load (agg:Bool) (n:Nat)
 | faddr (off:Nat)
 | field (off:Nat) (agg:Bool) (n:Nat)
 | iaddr (z:Nat)
 | aaddr (len z:Nat)
 | index
 | slstr (lo hi:Bool)
 | slice (z:Nat) (lo hi:Bool)
 | ext (i:Nat)
 | chk
 | lenstr
 | lensl
 | min
 | max
 | store (n:Nat)
 | make (e n by':Nat) (zc:List Value)
 | bslice (e n:Nat) (zc:List Value) (len:Nat) (idx:List Nat)
 | build (places:List (Nat×Nat)) (zc:List Value) (idx:List Nat)
 | barr (n:Nat) (zc:List Value) (idx:List Nat)
 | box (t:Nat)
 | alloc (t:Nat) (zc:List Value)
 | app (e n by':Nat)
 | call (f:Nat)
 | hcall (f:Nat)
 | callv
 | tslice (e n:Nat) (zc:List Value) (len:Nat) (idx:List Nat)
 | bad
 | ex (e:EK)
 | hx (h:HK)
def QM (P:Program) (t:TypeId):Bool:=match P.underlying t with | some .bool=>true | _=>false
@[simp] def DC (isB:Bool) (op:BinOp) (x y:Value):Option Value:=
 match x,y with
 | .int k a,.int k' b=>
  match op with
  | .shl=>if b<0 then none else some (.int k (k.wrap (a*2^(min b.toNat k.bits))))
  | .shr=>if b<0 then none else some (.int k (a.fdiv (2^(min b.toNat k.bits))))
  | .add=>if k=k' then some (.int k (k.wrap (a+b)))else none
  | .sub=>if k=k' then some (.int k (k.wrap (a-b)))else none
  | .mul=>if k=k' then some (.int k (k.wrap (a*b)))else none
  | .quo=>if k=k' then(if b=0 then none else some (.int k (k.wrap (a.tdiv b))))else none
  | .rem=>if k=k' then(if b=0 then none else some (.int k (a.tmod b)))else none
  | .and=>if k=k' then some (.int k (k.wrap (Xe k.bits a&&&Xe k.bits b).toNat))else none
  | .or=>if k=k' then some (.int k (k.wrap (Xe k.bits a|||Xe k.bits b).toNat))else none
  | .xor=>if k=k' then some (.int k (k.wrap (Xe k.bits a ^^^ Xe k.bits b).toNat))else none
  | .andNot=>if k=k' then some (.int k (k.wrap (Xe k.bits a &&& ~~~ (Xe k.bits b)).toNat))else none
  | .eql=>if k=k' then some (.bool (a==b))else none
  | .neq=>if k=k' then some (.bool (a != b))else none
  | .lss=>if k=k' then some (.bool (decide (a<b)))else none
  | .leq=>if k=k' then some (.bool (decide (a<=b)))else none
  | .gtr=>if k=k' then some (.bool (decide (b<a)))else none
  | .geq=>if k=k' then some (.bool (decide (b<=a)))else none
 | .string a,.string b=>
  match op with
  | .add=>if a.size+b.size<=9223372036854775807 then some (.string (a++b))else none
  | .eql=>some (.bool (a.toList==b.toList))
  | .neq=>some (.bool (!(a.toList==b.toList)))
  | .lss=>some (.bool (Op.bytesLess a.toList b.toList))
  | .leq=>some (.bool (Op.bytesLess a.toList b.toList||a.toList==b.toList))
  | .gtr=>some (.bool (!(Op.bytesLess a.toList b.toList||a.toList==b.toList)))
  | .geq=>some (.bool (!(Op.bytesLess a.toList b.toList)))
  | _=>none
 | .bool a,.bool b=>
  match op,isB with
  | .eql,true=>some (.bool (a==b))
  | .neq,true=>some (.bool (!(a==b)))
  | _,_=>none
 | _,_=>none
theorem kY (P:Program) (t:TypeId) (op:BinOp) (x y:Value):MD P t op x y=DC (QM P t) op x y:=by
 unfold MD DC QM
 cases x<;>cases y<;>try rfl
 case bool.bool a b=>
  simp only
  cases hu:P.underlying t with
  | none=>cases op<;>rfl
  | some d=>cases d<;>cases op<;>rfl
@[simp] def MT (nk:NK) (p:PV):Option Bool:=
 match nk,p with
 | .sl,.t (.v (.slice none _ _))=>some true
 | .sl,.t (.sl _ _)=>some false
 | .sl,.row _ _ _ _=>some false
 | .ifc,.t (.v .nilIface)=>some true
 | .ifc,.t (.ic _ _)=>some false
 | .ifc,.ic _ _=>some false
 | .ptr,.t (.v (.pointer none))=>some true
 | .ptr,.t (.pt _)=>some false
 | .ptr,.ptr _ _=>some false
 | .fn,.t (.v .nilFunc)=>some true
 | .fn,.t (.v (.func _ _ _))=>some false
 | .fn,.fn _ _ _=>some false
 | .mp,.t (.v (.map none))=>some true
 | .mp,.mp _=>some false
 | _,_=>none
def JR (P:Program) (t:TypeId):Operand->Option NK
 | .const (.slice none _ _)=>match P.underlying t with | some (.slice _)=>some .sl | _=>none
 | .const .nilIface=>match P.underlying t with | some (.interface _)=>some .ifc | _=>none
 | .const (.pointer none)=>match P.underlying t with | some (.pointer _)=>some .ptr | _=>none
 | .const .nilFunc=>match P.underlying t with | some (.func _ _ _)=>some .fn | _=>none
 | .const (.map none)=>match P.underlying t with | some (.map _ _)=>some .mp | _=>none
 | _=>none
@[simp] def JS (op:BinOp) (nk:Option NK) (p:PV):Option PV:=
 match nk with
 | some n=>match op with
  | .eql=>(MT n p).map λb=>.t (.v (.bool b))
  | .neq=>(MT n p).map λb=>.t (.v (.bool (!b)))
  | _=>none
 | none=>none
theorem Uy (P:Program) (op:BinOp) (t:TypeId) (p:PV) (y:Operand) {r:PV} (h:JS op (JR P t y) p=some r):GP P op t p y=some r:=by
 have key:∀c n b,JR P t (.const c)=some n->MT n p=some b->IR P t p c=some b:=by
  intro c n b hn hb;unfold JR at hn;split at hn<;>(try cases hn)<;>(rename_i hc;injection hc with hc;subst hc;split at hn<;>(try cases hn))
  all_goals (rename_i hu;unfold IR;rw[hu];unfold MT at hb;split at hb<;>(try cases hb)<;>first | rfl | contradiction)
 cases y with
 | const c=>
  simp only[JS]at h;split at h
  .rename_i n hn;simp only[GP]
   cases op<;>simp only at h ⊢ <;> try cases h
   all_goals
    cases hb:MT n p with
    | none=>rw[hb]at h;cases h
    | some b=>rw[hb]at h;rw[key c n b hn hb];exact h
  .cases h
 | tmp _=>simp[JR,JS]at h
 | global _=>simp[JR,JS]at h
 | func _=>simp[JR,JS]at h
end Go.Abs
