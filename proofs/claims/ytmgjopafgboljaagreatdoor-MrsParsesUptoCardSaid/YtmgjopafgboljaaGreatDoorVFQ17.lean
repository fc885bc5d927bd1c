/- Auxiliary facts. -/
import Derived.Test.YtmgjopafgboljaaGreatDoorVFQ16
import Derived.Shelf.Slices.In.SortNone
import Derived.Lib.RowBridge
set_option linter.unusedSimpArgs false
set_option maxRecDepth 100000
set_option maxHeartbeats 0
set_option linter.unusedVariables false
open List renaming length_map->Xc,getElem?_map->Xf,map_append->Xi,getElem?_eq_getElem->Xn,map_map->Xo,replicate->Xp,eq_nil_of_length_eq_zero->Xq,take_of_length_le->Xr,mem_singleton->Xs,length_singleton->Xt
open Go.Abs renaming upd->Xd
open Go.Proofs.Tryz renaming prog->Xe
open Array renaming ext'->Xg,size_modify->Xh,getElem?_eq_some_iff->Xk,getElem?_modify->Xl
open Nat renaming lt_of_lt_of_le->Xj
open Option renaming map_eq_some_iff->Xm
namespace Go.Proofs.YtmgjopafgboljaaGreatDoor
open Go Go.Abs Go.Sort
variable {q : Gl}
theorem s8 {P:Program} {G:AM} {L:Abs.Loc} {H:Ak} {w w':World} {g ty:Nat} {cs cs':List PV} {arr arr':Array Value} (hok:B1 P G L H w) (hl:Aj H g=some (.cells ty cs))
  (ha:w.heap[L.μ g]?=some (.cells arr ty (0,0))) (ha':w'.heap[L.μ g]?=some (.cells arr' ty (0,0))) (hs:arr'.size=arr.size) (hsz:w.heap.size<=w'.heap.size) (hk:∀k,k<w.heap.size->k≠L.μ g->w'.heap[k]?=w.heap[k]?) (hout:BR w w')
  (hlen:cs'.length<=arr'.size) (hc:∀(j:Nat) c,cs'[j]?=some c->∃x,arr'[j]?=some x/\x.oneCell'=true/\Aq P L w' c x) :
  B1 P G L (Xd H g (.cells ty cs')) w'/\Bh L w L w'/\Ext L H w L (Xd H g (.cells ty cs')) w':=by
 have hsh:BH w w':=λk hkl a t fz e=>by
  by_cases hkg:k=L.μ g
  .subst hkg;rw[ha']at e;injection e with e;injection e with e1 e2 e3;subst e1;subst e2;exact⟨arr,(0,0),ha,hs.symm⟩
  .rw[hk k hkl hkg]at e;exact⟨a,fz,e,rfl⟩
 have hm:Bh L w L w':=⟨λk hI=>⟨hI,hk k (hok.lt k hI) (λe=>hok.apart g _ hl (e▸hI))⟩,Nat.le_refl _,λ_ _=>rfl,hsz,hsh⟩
 have old:∀k r,Aj (Xd H g (.cells ty cs')) k=some r->∃r0,Aj H k=some r0:=λk r h=>by
  rw[A7]at h;split at h
  .rename_i e;subst e;exact⟨_,hl⟩
  .exact⟨r,h⟩
 refine⟨⟨λk hI=>Xj (hok.lt k hI) hsz,λk r h=>?_,λk r h=>?_,λk k' r r' h h' e=>?_,λk r h=>?_,DX hok hm.keeps⟩,hm,⟨hsz,λk hkl hkm=>hk k hkl (λe=>hkm ⟨g,_,hl,e.symm⟩),λ_ h=>h,λ_ h=>.inl h,λk ⟨b,r,h,e⟩=>?_,hsh,hout⟩⟩
 .rw[A7]at h;split at h
  .rename_i e;subst e;obtain⟨_,_,rfl⟩:=Bf h;exact⟨arr',ha',hlen,hc⟩
  .rename_i hne;have hr:=hok.rep k r h;exact hr.keep hm (hk _ hr.lt (λe=>hne (hok.inj _ _ _ _ h hl e)))
 .obtain⟨r0,h0⟩:=old k r h;exact hok.apart k _ h0
 .obtain⟨r0,h0⟩:=old k r h;obtain⟨r1,h1⟩:=old k' r' h';exact hok.inj _ _ _ _ h0 h1 e
 .obtain⟨r0,h0⟩:=old k r h;exact hok.nx k _ h0
 .obtain⟨r0,h0⟩:=old b r h;exact .inr ⟨b,_,h0,e⟩
abbrev lb (s:ByteArray):List UInt8:=s.data.toList
def Bg (l:List ByteArray):List ByteArray:=((l.map lb).mergeSort λx y=>decide (x<=y)).map bs
def E9 (l:List ByteArray):List ByteArray:=(Lib.compact (l.map lb)).map bs
theorem GC (l:List ByteArray):(Bg l).length=l.length:=by unfold Bg;rw[Xc,List.length_mergeSort,Xc]
theorem Qy (l:List ByteArray):(E9 l).length<=l.length:=by
 unfold E9;rw[Xc];exact Nat.le_trans (Lib.compact_length_le _) (by rw[Xc];exact Nat.le_refl _)
theorem WN (l:List ByteArray):l.flatMap Ar.enc=l.map sv:=by
 induction l with
 | nil=>rfl
 | cons x l ih=>rw[List.flatMap_cons,ih];rfl
abbrev EL (l:List ByteArray):Row:=.cells 9 ((l.map sv).map .t)
theorem Kl (l:List ByteArray):A5 Ar 9 l=EL l:=by unfold A5;rw[WN]
theorem WO (d:Array (List UInt8)) (arr:Array Value):(putCells encStr 0 d arr).size=arr.size:=by simp[putCells]
theorem sA (d:Array (List UInt8)) (arr:Array Value) (j:Nat) (hj:j<d.size) (ha:j<arr.size):(putCells encStr 0 d arr)[j]?=some (encStr d[j]!):=by
 unfold putCells;rw[Array.getElem?_mapIdx,Array.getElem?_eq_getElem ha,Option.map_some,zu ⟨Nat.zero_le _,by omega⟩,Nat.sub_zero]
theorem Q0 {L:Abs.Loc} {w:World} {H:Ak} {g:Nat} {l:List ByteArray} (hok:B1 Xe (G q) L H w) (hg:Aj H g=some (EL l)) :
  ∃arr,w.heap[L.μ g]?=some (.cells arr 9 (0,0))/\l.length<=arr.size/\Holds encStr w (L.μ g) 0 (l.map lb).toArray:=by
 obtain⟨arr,ha,hl,hc⟩:=hok.rep g _ hg;rw[Xc,Xc]at hl;refine⟨arr,ha,hl,λj hj=>?_⟩;rw[List.size_toArray,Xc]at hj;obtain⟨x,hx,_,hr⟩:=hc j (.t (sv l[j])) (by simp[hj]);simp only[Aq,AA]at hr;subst hr;constructor
 .simp only[World.cell?,ha,Nat.zero_add,hx];simp[hj]
 .simp[World.frozen?,ha]
theorem WQ {L:Abs.Loc} {w:World} {H:Ak} {g n:Nat} {l m:List ByteArray} (os:Array Obj) (hok:B1 Xe (G q) L H w) (hg:Aj H g=some (EL l)) (hm:m.length=l.length) :
  B1 Xe (G q) L (Xd H g (EL m)) (grow (putRow encStr (Sort.ahead w n) (L.μ g) 0 (m.map lb).toArray) os)/\Bh L w L (grow (putRow encStr (Sort.ahead w n) (L.μ g) 0 (m.map lb).toArray) os)/\Ext L H w L (Xd H g (EL m)) (grow (putRow encStr (Sort.ahead w n) (L.μ g) 0 (m.map lb).toArray) os):=by
 obtain⟨arr,ha,hl,_⟩:=Q0 hok hg;have hlt:L.μ g<w.heap.size:=(Xk.1 ha).1;have hh:(putRow encStr (Sort.ahead w n) (L.μ g) 0 (m.map lb).toArray).heap=w.heap.modify (L.μ g) (onCells (putCells encStr 0 (m.map lb).toArray)):=rfl;refine s8 (arr:=arr) (arr':=putCells encStr 0 (m.map lb).toArray arr) hok hg ha ?_ (WO _ _) ?_ (λk hk hne=>?_) ⟨rfl,rfl,rfl⟩ ?_ (λj c hj=>?_)
 .rw[heap_grow_old _ _ (by rw[hh,Xh];exact hlt),hh,Xl,zu rfl,ha];rfl
 .rw[size_grow,hh,Xh];omega
 .rw[heap_grow_old _ _ (by rw[hh,Xh];exact hk),hh,Xl,zw (Ne.symm hne)]
 .rw[Xc,Xc,WO];omega
 .rw[Xf,Xf]at hj;obtain⟨y,hy,rfl⟩:=Xm.1 hj;obtain⟨x,hx,rfl⟩:=Xm.1 hy;have hjl:j<m.length:=(List.getElem?_eq_some_iff.1 hx).1;refine⟨.string x,?_,rfl,by simp only[Aq,AA]⟩;rw[sA _ _ _ (by simpa using hjl) (by omega)]
  have e:((m.map lb).toArray)[j]! = lb x:=by
   have:m[j]=x:=by rw[Xn hjl]at hx;injection hx
   simp[hjl,this]
  rw[e]
theorem Oa {H:Ak} {nx g:Nat} {l:List ByteArray} (hg:AK Ar 9 H g l) (hl:l.length<=1000000000) :
  B3 Xe (G q) 42 [Ax Ar g l] H nx (.t (.tu [])) (if l.isEmpty then H else Xd H g (EL (Bg l))) nx:=by
 refine⟨⟨_,(Tryz.f42.body).get!,Tryz.func42,by kernel_rfl,by kernel_rfl⟩,λL w us hok hnx hargs=>?_⟩
 cases l with
 | nil=>
  have hus:us = #[.slice none 0 0]:=by
   simp only[Ax,AJ,Aq,AA]at hargs;obtain⟨x,xs,e,rfl,rfl⟩:=hargs;exact Xg e
  subst hus;refine(Any.slices_Sort_string_none Tryz.lays190 none 0 w).mono ?_;rintro e w' ⟨rfl,rfl⟩;exact⟨_,L,rfl,by simp[Aq,AA,AX],hok,hnx,Bh.refl L _,Ext.refl L H _⟩
 | cons x r=>
  have hg:Aj H g=some (EL (x::r)):=by rw[<-Kl];exact hg.resolve_left (by simp)
  obtain⟨arr,ha,hal,hH⟩:=Q0 hok hg
  obtain⟨c,hus⟩:∃c,us = #[.slice (some ⟨L.μ g,0,none⟩) (x::r).length c]:=by
   simp only[Ax,AJ,Aq]at hargs;obtain⟨y,ys,e,⟨_,_,c,rfl,_⟩,rfl⟩:=hargs;exact⟨c,Xg e⟩
  subst hus;have hs:=Tryz.slices_Sort_string (L.μ g) 0 c ((x::r).map lb) w hH (Xk.1 ha).1 (by rw[Xc];omega);rw[Xc]at hs;refine hs.mono ?_;rintro e w' ⟨rfl,n,os,rfl⟩
  have em:((x::r).map lb).mergeSort (λx y=>decide (x<=y))=(Bg (x::r)).map lb:=by
   unfold Bg;rw[Xo,show lb∘bs=id from rfl,List.map_id]
  rw[em];obtain⟨h1,h2,h3⟩:=WQ (n:=n) os hok hg (GC (x::r));exact⟨_,L,rfl,by simp[Aq,AA,AX],h1,hnx,h2,h3⟩
def HG (l:List ByteArray):List ByteArray:=E9 l++Xp (l.length-(E9 l).length) ByteArray.empty
theorem WR (l:List ByteArray):(HG l).length=l.length:=by
 have:=Qy l;unfold HG;rw[List.length_append,List.length_replicate];omega
def Km (g:Nat) (l:List ByteArray):PV:=if l.isEmpty then .t Au else .row g 0 (E9 l).length 1
theorem sB {H:Ak} {nx g:Nat} {l:List ByteArray} (hg:AK Ar 9 H g l) (hl:l.length<=1000000000) :
  B3 Xe (G q) 43 [Ax Ar g l] H nx (Km g l) (if l.isEmpty then H else Xd H g (EL (HG l))) nx:=by
 refine⟨⟨_,(Tryz.f43.body).get!,Tryz.func43,by kernel_rfl,by kernel_rfl⟩,λL w us hok hnx hargs=>?_⟩
 cases l with
 | nil=>
  have hus:us = #[.slice none 0 0]:=by
   simp only[Ax,AJ,Aq,AA]at hargs;obtain⟨x,xs,e,rfl,rfl⟩:=hargs;exact Xg e
  subst hus;refine(Tryz.slices_Compact_string_empty none 0 w).mono ?_;rintro e w' ⟨rfl,rfl⟩;exact⟨_,L,rfl,by simp[Km,Aq,AA],hok,hnx,Bh.refl L _,Ext.refl L H _⟩
 | cons x r=>
  have hg:Aj H g=some (EL (x::r)):=by rw[<-Kl];exact hg.resolve_left (by simp)
  obtain⟨arr,ha,hal,hH⟩:=Q0 hok hg
  obtain⟨c,hus,hgn,hgl,hlc,hfit⟩:∃c,us = #[.slice (some ⟨L.μ g,0,none⟩) (x::r).length c]/\g<L.nx/\L.μ g<w.heap.size/\(x::r).length<=c/\∀arr ty fz,w.heap[L.μ g]?=some (.cells arr ty fz)->0+c*1<=arr.size:=by
   simp only[Ax,AJ,Aq]at hargs;obtain⟨y,ys,e,⟨h1,h2,c,rfl,h3,h4⟩,rfl⟩:=hargs;exact⟨c,Xg e,h1,h2,h3,h4⟩
  subst hus;have hs:=Tryz.slices_Compact_string (L.μ g) 0 c ((x::r).map lb) w hH (by rw[Xc];omega) (by rw[Xc];omega);rw[Xc]at hs;refine hs.mono ?_;rintro e w' ⟨rfl,n,rfl⟩
  have el:(Lib.compact ((x::r).map lb)).length=(E9 (x::r)).length:=by unfold E9;rw[Xc]
  have em:Lib.compact ((x::r).map lb)++Xp ((x::r).length-(Lib.compact ((x::r).map lb)).length) []=(HG (x::r)).map lb:=by
   unfold HG;rw[Xi,List.map_replicate,el];unfold E9;rw[Xo,show lb∘bs=id from rfl,List.map_id];rfl
  rw[em,el];obtain⟨h1,h2,h3⟩:=WQ (n:=n) #[] hok hg (WR (x::r));rw[grow_empty]at h1 h2 h3;refine⟨_,L,rfl,?_,h1,hnx,h2,h3⟩;have hle:=Qy (x::r);simp only[Km,List.isEmpty_cons,Bool.false_eq_true,if_false,Aq];refine⟨hgn,Xj hgl h2.size,c,rfl,by omega,λa ty fz he=>?_⟩;obtain⟨a0,f0,e0,es⟩:=h2.shape _ hgl a ty fz he;have:=hfit a0 ty f0 e0;omega
open Go Go.Abs
theorem sC (x:ByteArray) (n:Nat):BB tyS 1 [.string ⟨#[]⟩] 1 [(0,.t (sv x))] n=some (.row n 0 1 1,A5 Ar tyS [x]):=rfl
theorem WS (σ:Nat->Nat) (ty:TypeId) (cs:List T):Gx σ (.cells ty (cs.map PV.t)) = .cells ty (cs.map PV.t):=by
 have r1:∀(cs:List T),Cc σ (cs.map PV.t)=cs.map PV.t:=λcs=>by
  induction cs with
  | nil=>rfl
  | cons c r ih=>simp only[List.map_cons,Cc,ren,ih]
 show Row.cells ty (Cc σ (cs.map PV.t))=_;rw[r1]
def Ir (m:Mr):List ByteArray:=m.rels.map Ep.pred
def Is (m:Mr) (j:Nat):List ByteArray:=(Ir m).take j
theorem sD {m:Mr} {j:Nat} {x:Ep} (h:m.rels[j]?=some x):Is m (j+1)=Is m j++[x.pred]:=by
 unfold Is Ir;rw[List.take_add_one,Xf,h];rfl
def SPp (X:Row) (t:T) (n:Nat) (l:List ByteArray) (j:Nat):Am:=⟨[(9,.t (iv (j:Int))),(8,.t (iv (n:Int))),(7,.t t),(3,Ax Ar 1 l)],[(0,X)]++G3 Ar tyS 1 l,2,23⟩
def LR (l:List ByteArray):T:=if l.isEmpty then Au else slT Ar (E9 (Bg l))
theorem sE {X:Row} {l:List ByteArray}:AK Ar tyS ([(0,X)]++G3 Ar tyS 1 l) 1 l:=by
 cases l with
 | nil=>exact .inl rfl
 | cons a r=>exact .inr rfl
theorem WT {l m:List ByteArray} (b:Nat) (h:l.length=m.length):Ax Ar b l=Ax Ar b m:=by
 cases l with
 | nil=>cases m with
  | nil=>rfl
  | cons a r=>cases h
 | cons a r=>cases m with
  | nil=>cases h
  | cons c s=>
   show PV.row b 0 (a::r).length 1=PV.row b 0 (c::s).length 1;rw[h]
theorem Q3:Bg []=[]:=Xq (GC [])
theorem sF {m:Mr} {cs:List T} (hm:BJ m cs) (hs:SmM m):Bc Xe (G q) 21 [.ag cs] (· = LR (Ir m)):=by
 obtain⟨tv,tr,tc,rl,rfl,hv,hr,hrm,hc⟩:=hm
 obtain⟨X,hX⟩:∃X,X=Br [iv m.top,iv m.index,tv,tr,tc]:=⟨_,rfl⟩
 have hXc:∃(ty:TypeId) (cs:List T),X = .cells ty (cs.map PV.t):=⟨_,_,hX⟩
 have z:=ldM (H:=[(0,X)]) (k:=0) (by rw[hX];rfl);have lr:=hr.len
 have hrl:rl.length=m.rels.length:=by rw[<-hrm,Xc]
 have hsr:=hs.rels;have cd:=cd5 (iv m.top) (iv m.index) tv tr tc
 obtain⟨L,hL⟩:∃L,L=Ir m:=⟨_,rfl⟩
 have hLl:L.length<=1000:=by rw[hL];unfold Ir;rw[Xc];exact hsr
 rw[<-hL]
 obtain⟨H,hH⟩:∃H,H=G3 Ar tyS 0 L:=⟨_,rfl⟩
 have rH:AK Ar tyS H 0 L:=by rw[hH];cases L with
  | nil=>exact .inl rfl
  | cons a r=>exact .inr rfl
 obtain⟨H2,hH2⟩:∃H2,H2=if L.isEmpty then H else Xd H 0 (EL (Bg L)):=⟨_,rfl⟩
 have fH:∀b x,Aj H b=some x->b<1:=λb x h=>by
  rw[hH]at h
  cases L with
  | nil=>cases h
  | cons a r=>
   change Aj [(0,A5 Ar tyS (a::r))] b=some x at h;rw[A9]at h;split at h
   .omega
   .cases h
 have l2:L≠[]->Aj H2 0=some (EL (Bg L)):=λhne=>by
  rw[hH2,zw (by simpa using hne),A7,zu rfl,rH.resolve_left hne];rfl
 have r2:AK Ar tyS H2 0 (Bg L):=by
  by_cases hne:L=[]
  .exact .inl (by rw[hne];exact Q3)
  .exact .inr (by rw[l2 hne];exact congrArg some (Kl _).symm)
 have f2:∀b x,Aj H2 b=some x->b<1:=λb x h=>by
  rw[hH2]at h;split at h
  .exact fH b x h
  .rw[A7]at h;split at h
   .omega
   .exact fH b x h
 have c1:=Oa (q:=q) (nx:=1) rH (by omega);rw[<-hH2]at c1;have c2:=sB (q:=q) (nx:=1) r2 (by rw[GC];omega);rw[WT 0 (GC L)]at c2
 obtain⟨H3,hH3⟩:∃H3,H3=if(Bg L).isEmpty then H2 else Xd H2 0 (EL (HG (Bg L))):=⟨_,rfl⟩
 rw[<-hH3]at c2
 have f3:∀b x,Aj H3 b=some x->b<1:=λb x h=>by
  rw[hH3]at h;split at h
  .exact f2 b x h
  .rw[A7]at h;split at h
   .omega
   .exact f2 b x h
 obtain⟨t1,o1,ok1⟩:∃t1,t1 [Ax Ar 0 L] H 1=some (.t (.tu []),H2,1)/\HOK Xe (G q) 42 t1:=⟨_,L8 _ _ _ _,L9 c1 λ_=>f2⟩
 obtain⟨t2,o2,ok2⟩:∃t2,t2 [Ax Ar 0 L] H2 1=some (Km 0 (Bg L),H3,1)/\HOK Xe (G q) 43 t2:=⟨_,L8 _ _ _ _,L9 c2 λ_=>f3⟩
 have C:Ctx Xe (G q) _:=AB.nil.ctxH (AG.cons ok1 (.cons ok2 .nil)) mixed
 obtain⟨R,hR⟩:∃R,R=LR L:=⟨_,rfl⟩
 have hT:∃F,toT H3 (Km 0 (Bg L))=some (R,F)/\∀b∈F,b=0:=by
  by_cases hne:L=[]
  .refine⟨[],?_,by simp⟩;rw[hR,hne,Q3];rfl
  .have hn2:Bg L≠[]:=λh=>hne (Xq (by rw[<-GC L,h];rfl))
   have l3:Aj H3 0=some (EL (HG (Bg L))):=by
    rw[hH3,zw (by simpa using hn2),A7,zu rfl,l2 hne];rfl
   refine⟨[0],?_,by simp⟩;have hle:=Qy (Bg L);unfold Km;rw[zw (by simpa using hn2),toT,l3,hR,LR,zw (by simpa using hne)];have hlen:=WR (Bg L);simp only[Xc,Nat.zero_add,Nat.mul_one,List.drop_zero];rw[zu (by omega)]
   have:List.take (E9 (Bg L)).length (((HG (Bg L)).map sv).map PV.t)=((E9 (Bg L)).map sv).map PV.t:=by
    unfold HG;rw[Xi,Xi,List.take_append_of_le_length (by simp)];exact Xr (by simp)
   rw[this,Lv,<-WN];rfl
 rw[<-hR];refine oF.call rfl ?_;(conv in UK=>cbv);refine Ao C ?_;simp -implicitDefEqProofs [cd];rw[show Row.cells 26 [.t (iv m.top),.t (iv m.index),.t tv,.t tr,.t tc]=X from hX.symm];refine Ao C ?_;simp -implicitDefEqProofs;refine AZ (α:=Unit) (λ_=>⟨[(3,Ax Ar 0 L)],H,1,23⟩) (λ_=>True) (λ_=>rfl) ?_ ?_
 .refine Ao C ?_;simp -implicitDefEqProofs [z.l3,lr];refine AY ?_;refine Bj (λj=>SPp X tr rl.length (Is m j) j) (λj=>m.rels.length-j) (λj=>j<=m.rels.length) 0 (λ_=>rfl) (Nat.zero_le _) ?_ rfl ?_
  .refine TO (e:=Ar) (ty:=tyS) (b:=1) (k:=1) (l:=[]) (R:=[(0,X)]) (AK.nil _ _ _ _) (by omega) (by omega) (λz hz=>?_) (by simp -implicitDefEqProofs [Ax,ren,under,Is]);simp only[Xs]at hz;subst hz;obtain⟨ty,cs,rfl⟩:=hXc;refine⟨?_,by omega,by show(0:Nat)≠1;omega,by show(0:Nat)≠1;omega,Qu cs⟩;rw[WS];rfl
  intro j hj
  obtain⟨l,hl⟩:∃l,l=Is m j:=⟨_,rfl⟩
  have hll:l.length<=1000:=by rw[hl];unfold Is Ir;rw[List.length_take,Xc];omega
  obtain⟨Hb,hHb⟩:∃Hb,Hb=[(0,X)]++G3 Ar tyS 1 l:=⟨_,rfl⟩
  have h1:AK Ar tyS Hb 1 l:=by rw[hHb];exact sE
  have h0:Aj Hb 0=some X:=by rw[hHb];rfl
  by_cases hlt:j<rl.length
  .obtain⟨c,hc1⟩:∃c,rl[j]?=some c:=⟨_,Xn (by omega)⟩
   have hx:m.rels[j]?=some c.x:=by rw[<-hrm,Xf,hc1];rfl
   obtain⟨ta,hcs,hta⟩:=c.ok;have i1:=hr.iaddr hc1 .i64;have hz:eEC.z=3:=rfl;rw[hz,show eEC.enc c=c.cs from rfl,hcs]at i1;have w1:IntKind.i64.wrap ((j:Int)+1)=((j+1:Nat):Int):=Bb (by omega) (by omega);have s3:=λa b d=>st3 2 a b d (sv c.x.pred) (iv c.x.label) ta 47 Hb (cd3 _ _ _)
   obtain⟨H1,hH1⟩:∃H1,H1=(2,Ca c.x.pred c.x.label ta)::Hb:=⟨_,rfl⟩
   have s3:∀a b d,AO 3 ((2,.cells 47 [a,b,d])::Hb) (.ptr 2 0) (.t (.ag [sv c.x.pred,iv c.x.label,ta]))=some H1:=λa b d=>by rw[hH1];exact s3 a b d
   have ze:=ldE (H:=H1) (k:=2) (by rw[hH1,A9,zu rfl])
   have k1:AK Ar tyS ((3,A5 Ar tyS [c.x.pred])::H1) 1 l:=by rw[hH1];exact(h1.cons (by omega)).cons (by omega)
   have k0:Aj ((3,A5 Ar tyS [c.x.pred])::H1) 0=some X:=by rw[hH1,A9,zw (by omega),A9,zw (by omega)];exact h0
   have src:CM ((3,A5 Ar tyS [c.x.pred])::H1) Ar.z (.row 3 0 1 1)=some ([c.x.pred].length,([c.x.pred].flatMap Ar.enc).map .t):=by
    have e:Aj ((3,A5 Ar tyS [c.x.pred])::H1) 3=some (A5 Ar tyS [c.x.pred]):=by rw[A9,zu rfl]
    simp only[CM,e];rfl
   obtain⟨b',H',nx',ap,r',hb',hn',hk',hg'⟩:=jR (by':=16) (nx:=4) k1 src (by simp only[Xt];omega) (by simp only[Xt];omega);have hzs:Ar.z=1:=rfl;rw[hzs]at ap
   have k0':Aj H' 0=some X:=by rw[hk' 0 (by omega) (by omega)];exact k0
   refine A8 C ?_;simp -implicitDefEqProofs [SPp,<-hl,<-hHb,hlt,i1,Fz,s3,ze.l0,sC,ap,w1];refine A4.mk (j+1) ⟨by omega,by omega⟩ ?_;show Abs.Sub _ _ _ _ (SPp X tr rl.length (Is m (j+1)) (j+1));rw[sD hx,<-hl];unfold SPp;refine TO (k:=b') r' (by omega) (by omega) (λz hz=>?_) (by simp -implicitDefEqProofs [TE,TF,ren,under]);simp only[Xs]at hz;subst hz;obtain⟨ty,cs,rfl⟩:=hXc;refine⟨?_,by omega,by show(0:Nat)≠1;omega,by show(0:Nat)≠b';omega,Qu cs⟩;rw[WS];exact k0'
  .have ei:j=m.rels.length:=by omega
   have hlL:l=L:=by rw[hl,hL];exact Xr (by unfold Ir;rw[Xc];omega)
   refine A8 C ?_;simp -implicitDefEqProofs [SPp,<-hl,<-hHb,hlt];refine A4.mk () trivial ?_;rw[hH,<-hlL];exact jC (k:=1) h1 (by omega) (by omega) (by simp -implicitDefEqProofs [TE,TF,ren,under])
 rintro _ _;obtain⟨F,hF,hF0⟩:=hT;refine A8 C ?_;simp -implicitDefEqProofs [o1,o2,hF,-toT]
end Go.Proofs.YtmgjopafgboljaaGreatDoor
