/-
 Auxiliary facts. No statement of the program stands here.
-/
import Derived.Test.YtmplckgbeaifkaaGreatDoorVBQ34
namespace Go.Proofs.YtmplckgbeaifkaaGreatDoor
set_option linter.unusedSimpArgs false
set_option linter.unusedVariables false
open Go Go.Abs Go.Sort
variable {q : Gl}
theorem F8n {P:Program} {G:A0u} {L:Abs.Loc} {H:Heap} {w w':World} {g ty:Nat} {cs cs':List PV} {arr arr':Array Value} (hok:A1l P G L H w) (hl:Abs.look H g=some (.cells ty cs))
  (ha:w.heap[L.μ g]?=some (.cells arr ty (0,0))) (ha':w'.heap[L.μ g]?=some (.cells arr' ty (0,0))) (hs:arr'.size=arr.size) (hsz:w.heap.size<=w'.heap.size) (hk:∀k,k<w.heap.size->k≠L.μ g->w'.heap[k]?=w.heap[k]?) (hout:A1v w w')
  (hlen:cs'.length<=arr'.size) (hc:∀(j:Nat) c,cs'[j]?=some c->∃x,arr'[j]?=some x/\x.oneCell'=true/\RepV P L w' c x) :
  A1l P G L (Abs.upd H g (.cells ty cs')) w'/\Mono L w L w'/\Ext L H w L (Abs.upd H g (.cells ty cs')) w':=by
 have hsh:A2d w w':=fun k hkl a t fz e=>by
  by_cases hkg:k=L.μ g
  ·subst hkg;rw[ha']at e;injection e with e;injection e with e1 e2 e3;subst e1;subst e2;exact⟨arr,(0,0),ha,hs.symm⟩
  ·rw[hk k hkl hkg]at e;exact⟨a,fz,e,rfl⟩
 have hm:Mono L w L w':=⟨fun k hI=>⟨hI,hk k (hok.lt k hI) (fun e=>hok.apart g _ hl (e▸hI))⟩,Nat.le_refl _,fun _ _=>rfl,hsz,hsh⟩
 have old:∀k r,Abs.look (Abs.upd H g (.cells ty cs')) k=some r->∃r0,Abs.look H k=some r0:=fun k r h=>by
  rw[A1h]at h;split at h
  ·rename_i e;subst e;exact⟨_,hl⟩
  ·exact⟨r,h⟩
 refine⟨⟨fun k hI=>Nat.lt_of_lt_of_le (hok.lt k hI) hsz,fun k r h=>?_,fun k r h=>?_,fun k k' r r' h h' e=>?_,fun k r h=>?_,A2o hok hm.keeps⟩,hm,⟨hsz,fun k hkl hkm=>hk k hkl (fun e=>hkm ⟨g,_,hl,e.symm⟩),fun _ h=>h,fun _ h=>.inl h,fun k ⟨b,r,h,e⟩=>?_,hsh,hout⟩⟩
 ·rw[A1h]at h;split at h
  ·rename_i e;subst e;obtain⟨_,_,rfl⟩:=A0m h;exact⟨arr',ha',hlen,hc⟩
  ·rename_i hne;have hr:=hok.rep k r h;exact hr.keep hm (hk _ hr.lt (fun e=>hne (hok.inj _ _ _ _ h hl e)))
 ·obtain⟨r0,h0⟩:=old k r h;exact hok.apart k _ h0
 ·obtain⟨r0,h0⟩:=old k r h;obtain⟨r1,h1⟩:=old k' r' h';exact hok.inj _ _ _ _ h0 h1 e
 ·obtain⟨r0,h0⟩:=old k r h;exact hok.nx k _ h0
 ·obtain⟨r0,h0⟩:=old b r h;exact .inr ⟨b,_,h0,e⟩
instance:Inhabited Pr:=⟨zPr⟩
theorem F1d (p:Pr):(encP p).length=4:=rfl
theorem E6f (l:List Pr) (t:Nat) (ht:t<l.length*4):∃x,l[t / 4]?=some x/\(l.flatMap ePr.enc)[t]?=(ePr.enc x)[t%4]?:=by
 have h1:t / 4<l.length:=by omega
 refine⟨l[t / 4],List.getElem?_eq_getElem h1,?_⟩;have hd:=B0o ePr l (t / 4) l[t / 4] (List.getElem?_eq_getElem h1)
 have h2:(l.flatMap ePr.enc)[t]?=((l.flatMap ePr.enc).drop (t / 4*4))[t%4]?:=by
  rw[List.getElem?_drop];congr 1;omega
 rw[h2,show(t / 4*4:Nat)=t / 4*ePr.z from rfl,hd,List.getElem?_append_left (by rw[ePr.len];show _<4;omega)]
theorem D6x (l:List Pr) (t:Nat) (ht:t<l.length*4) {x:Pr} (hx:l[t / 4]?=some x):(flatK encP 4 l.toArray)[t]! =(encP x)[t%4]!:=by
 rw[get_flatK _ _ _ _ (by simpa using ht)]
 have h1:t / 4<l.length:=by omega
 have:l.toArray[t / 4]! = x:=by
  rw[List.getElem?_eq_getElem h1]at hx;injection hx with hx;simp[h1,hx]
 rw[this]
theorem E6g (x:Pr) (j:Nat) (hj:j<4):∃v,(encP x)[j]?=some v/\(encP x)[j]! = v/\(ePr.enc x)[j]?=some (.v v)/\v.oneCell'=true:=by
 match j,hj with
 | 0,_=>exact⟨_,rfl,rfl,rfl,rfl⟩
 | 1,_=>exact⟨_,rfl,rfl,rfl,rfl⟩
 | 2,_=>exact⟨_,rfl,rfl,rfl,rfl⟩
 | 3,_=>exact⟨_,rfl,rfl,rfl,rfl⟩
theorem C4c {L:Abs.Loc} {w:World} {H:Heap} {g:Nat} {l:List Pr} (hok:A1l Tryz.prog (G q) L H w) (hg:Abs.look H g=some (A1b ePr 59 l)) :
  ∃arr,w.heap[L.μ g]?=some (.cells arr 59 (0,0))/\l.length*4<=arr.size/\HoldsK encP 4 w (L.μ g) 0 l.toArray:=by
 obtain⟨arr,ha,hl,hc⟩:=hok.rep g _ hg;rw[List.length_map,A1i]at hl;have hl:l.length*4<=arr.size:=hl;refine⟨arr,ha,hl,fun j hj=>?_⟩;rw[size_flatK]at hj
 have hj:j<l.length*4:=by simpa using hj
 obtain⟨x,hx,hf⟩:=E6f l j hj;obtain⟨v,_,h2,h3,_⟩:=E6g x (j%4) (by omega);obtain⟨u,hu,_,hr⟩:=hc j (.t (.v v)) (by rw[List.getElem?_map,hf,h3];rfl);simp only[RepV,RepT]at hr;subst hr;constructor
 ·simp only[World.cell?,ha,Nat.zero_add,hu];rw[D6x l j hj hx,h2];rfl
 ·simp[World.frozen?,ha]
theorem E0h {L:Abs.Loc} {w:World} {H:Heap} {g n:Nat} {l m:List Pr} (os:Array Obj) (hok:A1l Tryz.prog (G q) L H w) (hg:Abs.look H g=some (A1b ePr 59 l)) (hm:m.length=l.length) :
  A1l Tryz.prog (G q) L (Abs.upd H g (A1b ePr 59 m)) (sortWorldK encP 4 w (L.μ g) 0 n m.toArray os)/\Mono L w L (sortWorldK encP 4 w (L.μ g) 0 n m.toArray os)/\Ext L H w L (Abs.upd H g (A1b ePr 59 m)) (sortWorldK encP 4 w (L.μ g) 0 n m.toArray os):=by
 obtain⟨arr,ha,hl,_⟩:=C4c hok hg;have hlt:L.μ g<w.heap.size:=(Array.getElem?_eq_some_iff.1 ha).1;have hh:(putRowK encP 4 (Sort.ahead w n) (L.μ g) 0 m.toArray).heap=w.heap.modify (L.μ g) (onCells (putCells id 0 (flatK encP 4 m.toArray))):=rfl
 have hsz:(putCells id 0 (flatK encP 4 m.toArray) arr).size=arr.size:=by simp[putCells]
 unfold sortWorldK;refine F8n (arr:=arr) (arr':=putCells id 0 (flatK encP 4 m.toArray) arr) hok hg ha ?_ hsz ?_ (fun k hk hne=>?_) ⟨rfl,rfl,rfl⟩ ?_ (fun j c hj=>?_)
 ·rw[heap_grow_old _ _ (by rw[hh,Array.size_modify];exact hlt),hh,Array.getElem?_modify,if_pos rfl,ha];rfl
 ·rw[size_grow,hh,Array.size_modify];omega
 ·rw[heap_grow_old _ _ (by rw[hh,Array.size_modify];exact hk),hh,Array.getElem?_modify,if_neg (Ne.symm hne)]
 ·rw[List.length_map,A1i,hsz,hm];exact hl
 ·have hjl:j<m.length*4:=by
   have:=(List.getElem?_eq_some_iff.1 hj).1;rw[List.length_map,A1i]at this;exact this
  obtain⟨x,hx,hf⟩:=E6f m j hjl;obtain⟨v,_,h2,h3,h4⟩:=E6g x (j%4) (by omega);rw[List.getElem?_map,hf,h3]at hj;injection hj with hj;subst hj;refine⟨v,?_,h4,by simp only[RepV,RepT]⟩;unfold putCells;rw[Array.getElem?_mapIdx,Array.getElem?_eq_getElem (by rw[hm]at hjl;omega),Option.map_some,if_pos ⟨Nat.zero_le _,by rw[size_flatK];simpa using hjl⟩,Nat.sub_zero,D6x m j hjl hx,h2];rfl
theorem F1e:SWO (Go.Proofs.ltOf ordP) where
 irrefl x:=by unfold Go.Proofs.ltOf;rw[A2k.refl];rfl
 trans x y z h1 h2:=by
  unfold Go.Proofs.ltOf at *;simp only[decide_eq_true_eq]at *;exact A2k.trans _ _ _ h1 h2
 ntrans x y z h1 h2:=by
  unfold Go.Proofs.ltOf at *;simp only[decide_eq_false_iff_not,Int.not_lt]at *;have a1:=A2k.anti x y;have a2:=A2k.anti y z;have a3:=A2k.anti x z;rcases Int.lt_or_le 0 (ordP x y)with h3 | h3
  ·rcases Int.lt_or_le 0 (ordP y z)with h4 | h4
   ·have:=A2k.trans z y x (by omega) (by omega);omega
   ·have:=A2k.tieR x (show ordP y z=0 by omega);omega
  ·have:=A2k.tie x y z (by omega);omega
theorem F8o:(fun x y:Pr=>!(Go.Proofs.ltOf ordP) y x)=leP:=by
 funext x y;unfold Go.Proofs.ltOf leP;have:=A2k.anti x y;rw[Bool.eq_iff_iff];simp;omega
theorem B4t {H:Heap} {nx g:Nat} {l:List Pr} (hg:A0p ePr 59 H g l) (hl:l.length<=1000000) :
  A2g Tryz.prog (G q) 117 [rowP ePr g l,.t (fv 115)] H nx (.t (.tu [])) (if l.isEmpty then H else Abs.upd H g (A1b ePr 59 (srtP l))) nx:=by
 refine⟨⟨_,(Tryz.f117.body).get!,Tryz.func117,by kernel_rfl,by kernel_rfl⟩,fun L w us hok hnx hargs=>?_⟩
 cases l with
 | nil=>
  have hus:us = #[.slice none 0 0,.func (.func 115) #[] #[]]:=by
   simp only[rowP,A0r,RepV,RepT]at hargs;obtain⟨x,xs,e,rfl,y,ys,rfl,rfl,rfl⟩:=hargs;exact Array.ext' e
  subst hus;refine(AnyF.slices_SortFunc_none Tryz.sortL none 0 _ w).mono ?_;rintro e w' ⟨rfl,rfl⟩;exact⟨_,L,rfl,by simp[RepV,RepT,RepL],hok,hnx,Mono.refl L _,Ext.refl L H _⟩
 | cons x r=>
  have hg:Abs.look H g=some (A1b ePr 59 (x::r)):=hg.resolve_left (by simp);obtain⟨arr,ha,hal,hH⟩:=C4c hok hg
  obtain⟨c,hus⟩:∃c,us = #[.slice (some ⟨L.μ g,0,none⟩) (x::r).length c,.func (.func 115) #[] #[]]:=by
   simp only[rowP,A0r,RepV,RepT]at hargs;obtain⟨y,ys,e,⟨_,_,c,rfl,_⟩,z,zs,rfl,rfl,rfl⟩:=hargs;exact⟨c,Array.ext' e⟩
  subst hus;have eg:∀args w,(callFunc 115 args).run Tryz.prog w = .ok (.enter 115 args) w:=enters_of Tryz.func115 (by kernel_rfl) rfl
  have hs:=AnyQ.slices_SortFunc_total Tryz.sortL 4 Tryz.isAgg59 Tryz.sizeOf59 encP F1d (fun p v hv=>by
   simp only[encP,List.mem_cons,List.not_mem_nil,or_false]at hv
   rcases hv with rfl | rfl | rfl | rfl<;>rfl) ordP F1e 115 #[] (L.μ g) 0 c (x::r).toArray w eg (fun _ _ _ _ a b=>by simpa using D3p a b _) hH (Array.getElem?_eq_some_iff.1 ha).1 (by rw[List.size_toArray];omega) (fun a b h1 h2=>by
    unfold Go.Proofs.ltOf at h1 h2;simp only[decide_eq_false_iff_not,Int.not_lt]at h1 h2;have:=A2k.anti a b
    exact B4e.1 (by omega))
  rw[List.size_toArray]at hs;refine hs.mono ?_;rintro e w' ⟨rfl,n,os,rfl⟩
  have em:(x::r).toArray.toList.mergeSort (fun x y=>!(Go.Proofs.ltOf ordP) y x)=srtP (x::r):=by
   rw[F8o];rfl
  rw[em];obtain⟨h1,h2,h3⟩:=E0h (n:=n) os hok hg (B8o (x::r));exact⟨_,L,rfl,by simp[RepV,RepT,RepL],h1,hnx,h2,h3⟩
end Go.Proofs.YtmplckgbeaifkaaGreatDoor
