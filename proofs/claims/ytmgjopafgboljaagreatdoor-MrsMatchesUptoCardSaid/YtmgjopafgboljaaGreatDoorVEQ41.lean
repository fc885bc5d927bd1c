/- Auxiliary facts. -/
import Derived.Test.YtmgjopafgboljaaGreatDoorVEQ24
import Derived.Shelf.Slices.In.SortNone
import Derived.Lib.RowBridge
set_option linter.unusedSimpArgs false
set_option maxRecDepth 100000
set_option maxHeartbeats 0
set_option linter.unusedVariables false
namespace Go.Proofs.YtmgjopafgboljaaGreatDoor
open Go Go.Abs Go.Sort
variable {q : Gl}
theorem G1e {P:Program} {G:A1c} {L:Abs.Loc} {H:Heap} {w w':World} {g ty:Nat} {cs cs':List PV} {arr arr':Array Value} (hok:A1o P G L H w) (hl:Abs.look H g=some (.cells ty cs))
  (ha:w.heap[L.μ g]?=some (.cells arr ty (0,0))) (ha':w'.heap[L.μ g]?=some (.cells arr' ty (0,0))) (hs:arr'.size=arr.size) (hsz:w.heap.size<=w'.heap.size) (hk:∀k,k<w.heap.size->k≠L.μ g->w'.heap[k]?=w.heap[k]?) (hout:A3v w w')
  (hlen:cs'.length<=arr'.size) (hc:∀(j:Nat) c,cs'[j]?=some c->∃x,arr'[j]?=some x/\x.oneCell'=true/\RepV P L w' c x) :
  A1o P G L (Abs.upd H g (.cells ty cs')) w'/\Mono L w L w'/\Ext L H w L (Abs.upd H g (.cells ty cs')) w':=by
 have hsh:A1y w w':=fun k hkl a t fz e=>by
  by_cases hkg:k=L.μ g
  ·subst hkg;rw[ha']at e;injection e with e;injection e with e1 e2 e3;subst e1;subst e2;exact⟨arr,(0,0),ha,hs.symm⟩
  ·rw[hk k hkl hkg]at e;exact⟨a,fz,e,rfl⟩
 have hm:Mono L w L w':=⟨fun k hI=>⟨hI,hk k (hok.lt k hI) (fun e=>hok.apart g _ hl (e▸hI))⟩,Nat.le_refl _,fun _ _=>rfl,hsz,hsh⟩
 have old:∀k r,Abs.look (Abs.upd H g (.cells ty cs')) k=some r->∃r0,Abs.look H k=some r0:=fun k r h=>by
  rw[A0f]at h;split at h
  ·rename_i e;subst e;exact⟨_,hl⟩
  ·exact⟨r,h⟩
 refine⟨⟨fun k hI=>Nat.lt_of_lt_of_le (hok.lt k hI) hsz,fun k r h=>?_,fun k r h=>?_,fun k k' r r' h h' e=>?_,fun k r h=>?_,A2b hok hm.keeps⟩,hm,⟨hsz,fun k hkl hkm=>hk k hkl (fun e=>hkm ⟨g,_,hl,e.symm⟩),fun _ h=>h,fun _ h=>.inl h,fun k ⟨b,r,h,e⟩=>?_,hsh,hout⟩⟩
 ·rw[A0f]at h;split at h
  ·rename_i e;subst e;obtain⟨_,_,rfl⟩:=A0w h;exact⟨arr',ha',hlen,hc⟩
  ·rename_i hne;have hr:=hok.rep k r h;exact hr.keep hm (hk _ hr.lt (fun e=>hne (hok.inj _ _ _ _ h hl e)))
 ·obtain⟨r0,h0⟩:=old k r h;exact hok.apart k _ h0
 ·obtain⟨r0,h0⟩:=old k r h;obtain⟨r1,h1⟩:=old k' r' h';exact hok.inj _ _ _ _ h0 h1 e
 ·obtain⟨r0,h0⟩:=old k r h;exact hok.nx k _ h0
 ·obtain⟨r0,h0⟩:=old b r h;exact .inr ⟨b,_,h0,e⟩
abbrev lb (s:ByteArray):List UInt8:=s.data.toList
def srtS (l:List ByteArray):List ByteArray:=((l.map lb).mergeSort fun x y=>decide (x<=y)).map bs
def cmpS (l:List ByteArray):List ByteArray:=(Lib.compact (l.map lb)).map bs
theorem A6a (l:List ByteArray):(srtS l).length=l.length:=by unfold srtS;rw[List.length_map,List.length_mergeSort,List.length_map]
theorem C8e (l:List ByteArray):(cmpS l).length<=l.length:=by
 unfold cmpS;rw[List.length_map];exact Nat.le_trans (Lib.compact_length_le _) (by rw[List.length_map];exact Nat.le_refl _)
theorem D2f (l:List ByteArray):l.flatMap eStr.enc=l.map sv:=by
 induction l with
 | nil=>rfl
 | cons x l ih=>rw[List.flatMap_cons,ih];rfl
abbrev sRow (l:List ByteArray):Row:=.cells 9 ((l.map sv).map .t)
theorem B7h (l:List ByteArray):A0l eStr 9 l=sRow l:=by unfold A0l;rw[D2f]
theorem D2g (d:Array (List UInt8)) (arr:Array Value):(putCells encStr 0 d arr).size=arr.size:=by simp[putCells]
theorem F3t (d:Array (List UInt8)) (arr:Array Value) (j:Nat) (hj:j<d.size) (ha:j<arr.size):(putCells encStr 0 d arr)[j]?=some (encStr d[j]!):=by
 unfold putCells;rw[Array.getElem?_mapIdx,Array.getElem?_eq_getElem ha,Option.map_some,if_pos ⟨Nat.zero_le _,by omega⟩,Nat.sub_zero]
theorem C2r {L:Abs.Loc} {w:World} {H:Heap} {g:Nat} {l:List ByteArray} (hok:A1o Tryz.prog (G q) L H w) (hg:Abs.look H g=some (sRow l)) :
  ∃arr,w.heap[L.μ g]?=some (.cells arr 9 (0,0))/\l.length<=arr.size/\Holds encStr w (L.μ g) 0 (l.map lb).toArray:=by
 obtain⟨arr,ha,hl,hc⟩:=hok.rep g _ hg;rw[List.length_map,List.length_map]at hl;refine⟨arr,ha,hl,fun j hj=>?_⟩;rw[List.size_toArray,List.length_map]at hj;obtain⟨x,hx,_,hr⟩:=hc j (.t (sv l[j])) (by simp[hj]);simp only[RepV,RepT]at hr;subst hr;constructor
 ·simp only[World.cell?,ha,Nat.zero_add,hx];simp[hj]
 ·simp[World.frozen?,ha]
theorem D2h {L:Abs.Loc} {w:World} {H:Heap} {g n:Nat} {l m:List ByteArray} (os:Array Obj) (hok:A1o Tryz.prog (G q) L H w) (hg:Abs.look H g=some (sRow l)) (hm:m.length=l.length) :
  A1o Tryz.prog (G q) L (Abs.upd H g (sRow m)) (grow (putRow encStr (Sort.ahead w n) (L.μ g) 0 (m.map lb).toArray) os)/\Mono L w L (grow (putRow encStr (Sort.ahead w n) (L.μ g) 0 (m.map lb).toArray) os)/\Ext L H w L (Abs.upd H g (sRow m)) (grow (putRow encStr (Sort.ahead w n) (L.μ g) 0 (m.map lb).toArray) os):=by
 obtain⟨arr,ha,hl,_⟩:=C2r hok hg;have hlt:L.μ g<w.heap.size:=(Array.getElem?_eq_some_iff.1 ha).1;have hh:(putRow encStr (Sort.ahead w n) (L.μ g) 0 (m.map lb).toArray).heap=w.heap.modify (L.μ g) (onCells (putCells encStr 0 (m.map lb).toArray)):=rfl;refine G1e (arr:=arr) (arr':=putCells encStr 0 (m.map lb).toArray arr) hok hg ha ?_ (D2g _ _) ?_ (fun k hk hne=>?_) ⟨rfl,rfl,rfl⟩ ?_ (fun j c hj=>?_)
 ·rw[heap_grow_old _ _ (by rw[hh,Array.size_modify];exact hlt),hh,Array.getElem?_modify,if_pos rfl,ha];rfl
 ·rw[size_grow,hh,Array.size_modify];omega
 ·rw[heap_grow_old _ _ (by rw[hh,Array.size_modify];exact hk),hh,Array.getElem?_modify,if_neg (Ne.symm hne)]
 ·rw[List.length_map,List.length_map,D2g];omega
 ·rw[List.getElem?_map,List.getElem?_map]at hj;obtain⟨y,hy,rfl⟩:=Option.map_eq_some_iff.1 hj;obtain⟨x,hx,rfl⟩:=Option.map_eq_some_iff.1 hy;have hjl:j<m.length:=(List.getElem?_eq_some_iff.1 hx).1;refine⟨.string x,?_,rfl,by simp only[RepV,RepT]⟩;rw[F3t _ _ _ (by simpa using hjl) (by omega)]
  have e:((m.map lb).toArray)[j]! = lb x:=by
   have:m[j]=x:=by rw[List.getElem?_eq_getElem hjl]at hx;injection hx
   simp[hjl,this]
  rw[e]
theorem B5w {H:Heap} {nx g:Nat} {l:List ByteArray} (hg:A0z eStr 9 H g l) (hl:l.length<=1000000000) :
  A3n Tryz.prog (G q) 42 [rowP eStr g l] H nx (.t (.tu [])) (if l.isEmpty then H else Abs.upd H g (sRow (srtS l))) nx:=by
 refine⟨⟨_,(Tryz.f42.body).get!,Tryz.func42,by kernel_rfl,by kernel_rfl⟩,fun L w us hok hnx hargs=>?_⟩
 cases l with
 | nil=>
  have hus:us = #[.slice none 0 0]:=by
   simp only[rowP,A0y,RepV,RepT]at hargs;obtain⟨x,xs,e,rfl,rfl⟩:=hargs;exact Array.ext' e
  subst hus;refine(Any.slices_Sort_string_none Tryz.lays190 none 0 w).mono ?_;rintro e w' ⟨rfl,rfl⟩;exact⟨_,L,rfl,by simp[RepV,RepT,RepL],hok,hnx,Mono.refl L _,Ext.refl L H _⟩
 | cons x r=>
  have hg:Abs.look H g=some (sRow (x::r)):=by rw[<-B7h];exact hg.resolve_left (by simp)
  obtain⟨arr,ha,hal,hH⟩:=C2r hok hg
  obtain⟨c,hus⟩:∃c,us = #[.slice (some ⟨L.μ g,0,none⟩) (x::r).length c]:=by
   simp only[rowP,A0y,RepV]at hargs;obtain⟨y,ys,e,⟨_,_,c,rfl,_⟩,rfl⟩:=hargs;exact⟨c,Array.ext' e⟩
  subst hus;have hs:=Tryz.slices_Sort_string (L.μ g) 0 c ((x::r).map lb) w hH (Array.getElem?_eq_some_iff.1 ha).1 (by rw[List.length_map];omega);rw[List.length_map]at hs;refine hs.mono ?_;rintro e w' ⟨rfl,n,os,rfl⟩
  have em:((x::r).map lb).mergeSort (fun x y=>decide (x<=y))=(srtS (x::r)).map lb:=by
   unfold srtS;rw[List.map_map,show lb∘bs=id from rfl,List.map_id]
  rw[em];obtain⟨h1,h2,h3⟩:=D2h (n:=n) os hok hg (A6a (x::r));exact⟨_,L,rfl,by simp[RepV,RepT,RepL],h1,hnx,h2,h3⟩
def cmpR (l:List ByteArray):List ByteArray:=cmpS l++List.replicate (l.length-(cmpS l).length) ByteArray.empty
theorem D9p (l:List ByteArray):(cmpR l).length=l.length:=by
 have:=C8e l;unfold cmpR;rw[List.length_append,List.length_replicate];omega
def cmpP (g:Nat) (l:List ByteArray):PV:=if l.isEmpty then .t nilS else .row g 0 (cmpS l).length 1
theorem D2i {H:Heap} {nx g:Nat} {l:List ByteArray} (hg:A0z eStr 9 H g l) (hl:l.length<=1000000000) :
  A3n Tryz.prog (G q) 43 [rowP eStr g l] H nx (cmpP g l) (if l.isEmpty then H else Abs.upd H g (sRow (cmpR l))) nx:=by
 refine⟨⟨_,(Tryz.f43.body).get!,Tryz.func43,by kernel_rfl,by kernel_rfl⟩,fun L w us hok hnx hargs=>?_⟩
 cases l with
 | nil=>
  have hus:us = #[.slice none 0 0]:=by
   simp only[rowP,A0y,RepV,RepT]at hargs;obtain⟨x,xs,e,rfl,rfl⟩:=hargs;exact Array.ext' e
  subst hus;refine(Tryz.slices_Compact_string_empty none 0 w).mono ?_;rintro e w' ⟨rfl,rfl⟩;exact⟨_,L,rfl,by simp[cmpP,RepV,RepT],hok,hnx,Mono.refl L _,Ext.refl L H _⟩
 | cons x r=>
  have hg:Abs.look H g=some (sRow (x::r)):=by rw[<-B7h];exact hg.resolve_left (by simp)
  obtain⟨arr,ha,hal,hH⟩:=C2r hok hg
  obtain⟨c,hus,hgn,hgl,hlc,hfit⟩:∃c,us = #[.slice (some ⟨L.μ g,0,none⟩) (x::r).length c]/\g<L.nx/\L.μ g<w.heap.size/\(x::r).length<=c/\∀arr ty fz,w.heap[L.μ g]?=some (.cells arr ty fz)->0+c*1<=arr.size:=by
   simp only[rowP,A0y,RepV]at hargs;obtain⟨y,ys,e,⟨h1,h2,c,rfl,h3,h4⟩,rfl⟩:=hargs;exact⟨c,Array.ext' e,h1,h2,h3,h4⟩
  subst hus;have hs:=Tryz.slices_Compact_string (L.μ g) 0 c ((x::r).map lb) w hH (by rw[List.length_map];omega) (by rw[List.length_map];omega);rw[List.length_map]at hs;refine hs.mono ?_;rintro e w' ⟨rfl,n,rfl⟩
  have el:(Lib.compact ((x::r).map lb)).length=(cmpS (x::r)).length:=by unfold cmpS;rw[List.length_map]
  have em:Lib.compact ((x::r).map lb)++List.replicate ((x::r).length-(Lib.compact ((x::r).map lb)).length) []=(cmpR (x::r)).map lb:=by
   unfold cmpR;rw[List.map_append,List.map_replicate,el];unfold cmpS;rw[List.map_map,show lb∘bs=id from rfl,List.map_id];rfl
  rw[em,el];obtain⟨h1,h2,h3⟩:=D2h (n:=n) #[] hok hg (D9p (x::r));rw[grow_empty]at h1 h2 h3;refine⟨_,L,rfl,?_,h1,hnx,h2,h3⟩;have hle:=C8e (x::r);simp only[cmpP,List.isEmpty_cons,Bool.false_eq_true,if_false,RepV];refine⟨hgn,Nat.lt_of_lt_of_le hgl h2.size,c,rfl,by omega,fun a ty fz he=>?_⟩;obtain⟨a0,f0,e0,es⟩:=h2.shape _ hgl a ty fz he;have:=hfit a0 ty f0 e0;omega
open Go Go.Abs
theorem bsl_1 (x:ByteArray) (n:Nat):A1v tyS 1 [.string ⟨#[]⟩] 1 [(0,.t (sv x))] n=some (.row n 0 1 1,A0l eStr tyS [x]):=rfl
theorem D9q (σ:Nat->Nat) (ty:TypeId) (cs:List T):B3m σ (.cells ty (cs.map PV.t)) = .cells ty (cs.map PV.t):=by
 have r1:∀(cs:List T),renL σ (cs.map PV.t)=cs.map PV.t:=fun cs=>by
  induction cs with
  | nil=>rfl
  | cons c r ih=>simp only[List.map_cons,renL,ren,ih]
 show Row.cells ty (renL σ (cs.map PV.t))=_;rw[r1]
def A7y (m:Mr):List ByteArray:=m.rels.map Ep.pred
def D2j (m:Mr) (j:Nat):List ByteArray:=(A7y m).take j
theorem E3u {m:Mr} {j:Nat} {x:Ep} (h:m.rels[j]?=some x):D2j m (j+1)=D2j m j++[x.pred]:=by
 unfold D2j A7y;rw[List.take_add_one,List.getElem?_map,h];rfl
def SPp (X:Row) (t:T) (n:Nat) (l:List ByteArray) (j:Nat):A0c:=⟨[(9,.t (iv (j:Int))),(8,.t (iv (n:Int))),(7,.t t),(3,rowP eStr 1 l)],[(0,X)]++rowH eStr tyS 1 l,2,23⟩
def cmpT (l:List ByteArray):T:=if l.isEmpty then nilS else slT eStr (cmpS (srtS l))
theorem row_X {X:Row} {l:List ByteArray}:A0z eStr tyS ([(0,X)]++rowH eStr tyS 1 l) 1 l:=by
 cases l with
 | nil=>exact .inl rfl
 | cons a r=>exact .inr rfl
theorem D9r {l m:List ByteArray} (b:Nat) (h:l.length=m.length):rowP eStr b l=rowP eStr b m:=by
 cases l with
 | nil=>cases m with
  | nil=>rfl
  | cons a r=>cases h
 | cons a r=>cases m with
  | nil=>cases h
  | cons c s=>
   show PV.row b 0 (a::r).length 1=PV.row b 0 (c::s).length 1;rw[h]
theorem C8f:srtS []=[]:=List.eq_nil_of_length_eq_zero (A6a [])
theorem C2s {m:Mr} {cs:List T} (hm:IsMr m cs) (hs:SmM m):A1d Tryz.prog (G q) 21 [.ag cs] (· = cmpT (A7y m)):=by
 obtain⟨tv,tr,tc,rl,rfl,hv,hr,hrm,hc⟩:=hm
 obtain⟨X,hX⟩:∃X,X=mRow [iv m.top,iv m.index,tv,tr,tc]:=⟨_,rfl⟩
 have hXc:∃(ty:TypeId) (cs:List T),X = .cells ty (cs.map PV.t):=⟨_,_,hX⟩
 have z:=ldM (H:=[(0,X)]) (k:=0) (by rw[hX];rfl);have lr:=hr.len
 have hrl:rl.length=m.rels.length:=by rw[<-hrm,List.length_map]
 have hsr:=hs.rels;have cd:=cd5 (iv m.top) (iv m.index) tv tr tc
 obtain⟨L,hL⟩:∃L,L=A7y m:=⟨_,rfl⟩
 have hLl:L.length<=1000:=by rw[hL];unfold A7y;rw[List.length_map];exact hsr
 rw[<-hL]
 obtain⟨H,hH⟩:∃H,H=rowH eStr tyS 0 L:=⟨_,rfl⟩
 have rH:A0z eStr tyS H 0 L:=by rw[hH];cases L with
  | nil=>exact .inl rfl
  | cons a r=>exact .inr rfl
 obtain⟨H2,hH2⟩:∃H2,H2=if L.isEmpty then H else Abs.upd H 0 (sRow (srtS L)):=⟨_,rfl⟩
 have fH:∀b x,Abs.look H b=some x->b<1:=fun b x h=>by
  rw[hH]at h
  cases L with
  | nil=>cases h
  | cons a r=>
   change Abs.look [(0,A0l eStr tyS (a::r))] b=some x at h;rw[look_cons]at h;split at h
   ·omega
   ·cases h
 have l2:L≠[]->Abs.look H2 0=some (sRow (srtS L)):=fun hne=>by
  rw[hH2,if_neg (by simpa using hne),A0f,if_pos rfl,rH.resolve_left hne];rfl
 have r2:A0z eStr tyS H2 0 (srtS L):=by
  by_cases hne:L=[]
  ·exact .inl (by rw[hne];exact C8f)
  ·exact .inr (by rw[l2 hne];exact congrArg some (B7h _).symm)
 have f2:∀b x,Abs.look H2 b=some x->b<1:=fun b x h=>by
  rw[hH2]at h;split at h
  ·exact fH b x h
  ·rw[A0f]at h;split at h
   ·omega
   ·exact fH b x h
 have c1:=B5w (q:=q) (nx:=1) rH (by omega);rw[<-hH2]at c1;have c2:=D2i (q:=q) (nx:=1) r2 (by rw[A6a];omega);rw[D9r 0 (A6a L)]at c2
 obtain⟨H3,hH3⟩:∃H3,H3=if(srtS L).isEmpty then H2 else Abs.upd H2 0 (sRow (cmpR (srtS L))):=⟨_,rfl⟩
 rw[<-hH3]at c2
 have f3:∀b x,Abs.look H3 b=some x->b<1:=fun b x h=>by
  rw[hH3]at h;split at h
  ·exact f2 b x h
  ·rw[A0f]at h;split at h
   ·omega
   ·exact f2 b x h
 obtain⟨t1,o1,ok1⟩:∃t1,t1 [rowP eStr 0 L] H 1=some (.t (.tu []),H2,1)/\HOK Tryz.prog (G q) 42 t1:=⟨_,C0y _ _ _ _,C0z c1 fun _=>f2⟩
 obtain⟨t2,o2,ok2⟩:∃t2,t2 [rowP eStr 0 L] H2 1=some (cmpP 0 (srtS L),H3,1)/\HOK Tryz.prog (G q) 43 t2:=⟨_,C0y _ _ _ _,C0z c2 fun _=>f3⟩
 have C:Ctx Tryz.prog (G q) _:=A0s.nil.ctxH (A0v.cons ok1 (.cons ok2 .nil)) mixed
 obtain⟨R,hR⟩:∃R,R=cmpT L:=⟨_,rfl⟩
 have hT:∃F,toT H3 (cmpP 0 (srtS L))=some (R,F)/\∀b∈F,b=0:=by
  by_cases hne:L=[]
  ·refine⟨[],?_,by simp⟩;rw[hR,hne,C8f];rfl
  ·have hn2:srtS L≠[]:=fun h=>hne (List.eq_nil_of_length_eq_zero (by rw[<-A6a L,h];rfl))
   have l3:Abs.look H3 0=some (sRow (cmpR (srtS L))):=by
    rw[hH3,if_neg (by simpa using hn2),A0f,if_pos rfl,l2 hne];rfl
   refine⟨[0],?_,by simp⟩;have hle:=C8e (srtS L);unfold cmpP;rw[if_neg (by simpa using hn2),toT,l3,hR,cmpT,if_neg (by simpa using hne)];have hlen:=D9p (srtS L);simp only[List.length_map,Nat.zero_add,Nat.mul_one,List.drop_zero];rw[if_pos (by omega)]
   have:List.take (cmpS (srtS L)).length (((cmpR (srtS L)).map sv).map PV.t)=((cmpS (srtS L)).map sv).map PV.t:=by
    unfold cmpR;rw[List.map_append,List.map_append,List.take_append_of_le_length (by simp)];exact List.take_of_length_le (by simp)
   rw[this,allT_map_t,<-D2f];rfl
 rw[<-hR];refine D5i.call rfl ?_;(conv in C1n=>cbv);refine A0a C ?_;simp -implicitDefEqProofs [cd];rw[show Row.cells 26 [.t (iv m.top),.t (iv m.index),.t tv,.t tr,.t tc]=X from hX.symm];refine A0a C ?_;simp -implicitDefEqProofs;refine A0q (α:=Unit) (fun _=>⟨[(3,rowP eStr 0 L)],H,1,23⟩) (fun _=>True) (fun _=>rfl) ?_ ?_
 ·refine A0a C ?_;simp -implicitDefEqProofs [z.l3,lr];refine A0j ?_;refine A0n (fun j=>SPp X tr rl.length (D2j m j) j) (fun j=>m.rels.length-j) (fun j=>j<=m.rels.length) 0 (fun _=>rfl) (Nat.zero_le _) ?_ rfl ?_
  ·refine D8f (e:=eStr) (ty:=tyS) (b:=1) (k:=1) (l:=[]) (R:=[(0,X)]) (A0z.nil _ _ _ _) (by omega) (by omega) (fun z hz=>?_) (by simp -implicitDefEqProofs [rowP,ren,under,D2j]);simp only[List.mem_singleton]at hz;subst hz;obtain⟨ty,cs,rfl⟩:=hXc;refine⟨?_,by omega,by show(0:Nat)≠1;omega,by show(0:Nat)≠1;omega,D5r cs⟩;rw[D9q];rfl
  intro j hj
  obtain⟨l,hl⟩:∃l,l=D2j m j:=⟨_,rfl⟩
  have hll:l.length<=1000:=by rw[hl];unfold D2j A7y;rw[List.length_take,List.length_map];omega
  obtain⟨Hb,hHb⟩:∃Hb,Hb=[(0,X)]++rowH eStr tyS 1 l:=⟨_,rfl⟩
  have h1:A0z eStr tyS Hb 1 l:=by rw[hHb];exact row_X
  have h0:Abs.look Hb 0=some X:=by rw[hHb];rfl
  by_cases hlt:j<rl.length
  ·obtain⟨c,hc1⟩:∃c,rl[j]?=some c:=⟨_,List.getElem?_eq_getElem (by omega)⟩
   have hx:m.rels[j]?=some c.x:=by rw[<-hrm,List.getElem?_map,hc1];rfl
   obtain⟨ta,hcs,hta⟩:=c.ok;have i1:=hr.iaddr hc1 .i64;have hz:eEC.z=3:=rfl;rw[hz,show eEC.enc c=c.cs from rfl,hcs]at i1;have w1:IntKind.i64.wrap ((j:Int)+1)=((j+1:Nat):Int):=A0k (by omega) (by omega);have s3:=fun a b d=>st3 2 a b d (sv c.x.pred) (iv c.x.label) ta 47 Hb (cd3 _ _ _)
   obtain⟨H1,hH1⟩:∃H1,H1=(2,eRow c.x.pred c.x.label ta)::Hb:=⟨_,rfl⟩
   have s3:∀a b d,A0x 3 ((2,.cells 47 [a,b,d])::Hb) (.ptr 2 0) (.t (.ag [sv c.x.pred,iv c.x.label,ta]))=some H1:=fun a b d=>by rw[hH1];exact s3 a b d
   have ze:=ldE (H:=H1) (k:=2) (by rw[hH1,look_cons,if_pos rfl])
   have k1:A0z eStr tyS ((3,A0l eStr tyS [c.x.pred])::H1) 1 l:=by rw[hH1];exact(h1.cons (by omega)).cons (by omega)
   have k0:Abs.look ((3,A0l eStr tyS [c.x.pred])::H1) 0=some X:=by rw[hH1,look_cons,if_neg (by omega),look_cons,if_neg (by omega)];exact h0
   have src:srcP ((3,A0l eStr tyS [c.x.pred])::H1) eStr.z (.row 3 0 1 1)=some ([c.x.pred].length,([c.x.pred].flatMap eStr.enc).map .t):=by
    have e:Abs.look ((3,A0l eStr tyS [c.x.pred])::H1) 3=some (A0l eStr tyS [c.x.pred]):=by rw[look_cons,if_pos rfl]
    simp only[srcP,e];rfl
   obtain⟨b',H',nx',ap,r',hb',hn',hk',hg'⟩:=F2j (by':=16) (nx:=4) k1 src (by simp only[List.length_singleton];omega) (by simp only[List.length_singleton];omega);have hzs:eStr.z=1:=rfl;rw[hzs]at ap
   have k0':Abs.look H' 0=some X:=by rw[hk' 0 (by omega) (by omega)];exact k0
   refine A0e C ?_;simp -implicitDefEqProofs [SPp,<-hl,<-hHb,hlt,i1,l3_c,s3,ze.l0,bsl_1,ap,w1];refine Abs.Next.mk (j+1) ⟨by omega,by omega⟩ ?_;show Abs.Sub _ _ _ _ (SPp X tr rl.length (D2j m (j+1)) (j+1));rw[E3u hx,<-hl];unfold SPp;refine D8f (k:=b') r' (by omega) (by omega) (fun z hz=>?_) (by simp -implicitDefEqProofs [D8c,C4u,ren,under]);simp only[List.mem_singleton]at hz;subst hz;obtain⟨ty,cs,rfl⟩:=hXc;refine⟨?_,by omega,by show(0:Nat)≠1;omega,by show(0:Nat)≠b';omega,D5r cs⟩;rw[D9q];exact k0'
  ·have ei:j=m.rels.length:=by omega
   have hlL:l=L:=by rw[hl,hL];exact List.take_of_length_le (by unfold A7y;rw[List.length_map];omega)
   refine A0e C ?_;simp -implicitDefEqProofs [SPp,<-hl,<-hHb,hlt];refine Abs.Next.mk () trivial ?_;rw[hH,<-hlL];exact F2h (k:=1) h1 (by omega) (by omega) (by simp -implicitDefEqProofs [D8c,C4u,ren,under])
 rintro _ _;obtain⟨F,hF,hF0⟩:=hT;refine A0e C ?_;simp -implicitDefEqProofs [o1,o2,hF,-toT]
end Go.Proofs.YtmgjopafgboljaaGreatDoor
