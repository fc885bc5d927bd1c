/- Auxiliary facts. -/
import Derived.Test.YtmplckgbeaifkaaGreatDoorVDQ17
import Derived.Test.YtmplckgbeaifkaaGreatDoorVDQ20
set_option linter.unusedSimpArgs false
set_option maxRecDepth 100000
set_option maxHeartbeats 0
set_option linter.unusedVariables false
namespace Go.Proofs.YtmplckgbeaifkaaGreatDoor
open Go Go.Abs Go.RowKit
variable {q : Gl}
def eB:Enc UInt8:=⟨1,fun b=>[.v (.int .u8 b.toNat)],fun _=>rfl,by omega,fun a b h=>by
 injection h with h;injection h with h;injection h with _ h
 exact UInt8.toNat_inj.1 (by exact_mod_cast h)⟩
abbrev tyB:Nat:=101
abbrev tyU:Nat:=5
def bldR (p:PV) (g:Nat) (l:List UInt8):Row:=.cells tyB [p,rowP eB g l]
theorem D1r (l:List UInt8):l.flatMap eB.enc=l.map fun b=>T.v (.int .u8 b.toNat):=by
 induction l with
 | nil=>rfl
 | cons x l ih=>rw[List.flatMap_cons,ih];rfl
def wsH (H:Heap) (b g nx:Nat) (l m:List UInt8):Heap:=(nx,A1p eB tyU m)::upd (if l.isEmpty then H else rem H g) b (bldR (.ptr b 0) nx m)
theorem E3i (s:List UInt8):Lib.strCells (bs s)=s.map fun b=>Value.int .u8 b.toNat:=by
 unfold Lib.strCells;simp[bs]
theorem F5c (b:Nat) (arr:Array Value) (p v:Value) (xs:List Value) (s:ByteArray) (w:World) (hp:p = .pointer none\/p = .pointer (some ⟨b,0,none⟩))
  (hb:w.heap[b]?=some (.cells arr tyB (0,0))) (ha0:arr[0]?=some p) (ha1:arr[1]?=some v)
  (hown0:Buf tyU w v xs.length xs) (hne:v.ownBlock≠some b) (hlen:xs.length+s.size<=140737488355328) :
  Calls Tryz.prog 77 #[.pointer (some ⟨b,0,none⟩),.string s] w fun e w'=>e = .returned (.tuple #[.int .i64 s.size,.nilIface]) /\
   ∃v',w'.heap[b]?=some (.cells ((arr.setIfInBounds 0 (.pointer (some ⟨b,0,none⟩))).setIfInBounds 1 v') tyB (0,0))/\Buf tyU w' v' (xs.length+s.size) (xs++Lib.strCells s)/\v'.ownBlock≠some b/\E1p w w' (some b) v.ownBlock v'.ownBlock:=
 E1q (ρ:=Tryz.lays156_ren) { Tryz.lays156 with } Tryz.Builder_Extra_156 B7j (by kernel_rfl) b arr p v xs s w hp hb ha0 ha1 hown0 hne hlen
abbrev byV (l:List UInt8):List Value:=l.map fun b=>Value.int .u8 b.toNat
theorem D1s {L:Abs.Loc} {w:World} {H:Heap} {g:Nat} {l:List UInt8} {v:Value} (hok:A1i Tryz.prog (G q) L H w) (hg:A1e eB tyU H g l) (hv:RepV Tryz.prog L w (rowP eB g l) v) :
  Buf tyU w v l.length (byV l)/\(v.ownBlock=if l.isEmpty then none else some (L.μ g)):=by
 cases l with
 | nil=>
  simp only[rowP,RepV,RepT]at hv;subst hv;exact⟨⟨rfl,.inl ⟨rfl,rfl⟩⟩,rfl⟩
 | cons x r=>
  rcases hg with hg | hg
  ·cases hg
  ·obtain⟨arr,ha,hl,hc⟩:=hok.rep g _ hg;simp only[rowP,RepV]at hv;obtain⟨_,_,c,rfl,hnc,hfit⟩:=hv;have hf:=hfit arr tyU (0,0) ha;have hz:eB.z=1:=rfl;rw[hz]at hf;rw[D1r]at hl hc;refine⟨⟨by simp[byV],.inr ⟨L.μ g,c,arr,rfl,ha,hnc,by omega,?_⟩⟩,rfl⟩;apply List.ext_getElem?;intro k;rw[List.getElem?_take];by_cases hk:k<(x::r).length
   ·rw[if_pos hk]
    obtain⟨y,hy⟩:∃y,(x::r)[k]?=some y:=⟨_,List.getElem?_eq_getElem hk⟩
    obtain⟨z,h1,_,h2⟩:=hc k (.t (.v (.int .u8 y.toNat))) (by simp only[List.getElem?_map,hy,Option.map_some]);simp only[RepV,RepT]at h2;subst h2;simp only[byV,List.getElem?_map,hy,Option.map_some];simpa using h1
   ·rw[if_neg hk,List.getElem?_eq_none (by simpa[byV]using hk)]
theorem B0x {H:Heap} {b g nx k:Nat} {l m:List UInt8} {r:Row} (h:Abs.look (wsH H b g nx l m) k=some r) :
  (k=nx/\r=A1p eB tyU m)\/(k≠nx/\k=b/\r=bldR (.ptr b 0) nx m)\/(k≠nx/\k≠b/\(l=[]\/k≠g)/\Abs.look H k=some r):=by
 unfold wsH at h;rw[look_cons]at h;split at h
 ·rename_i e;injection h with h;exact .inl ⟨e.symm,h.symm⟩
 ·rename_i hn;rw[A1d]at h;split at h
  ·rename_i e;obtain⟨_,_,rfl⟩:=A0i h;exact .inr (.inl ⟨fun e=>hn e.symm,e,rfl⟩)
  ·rename_i hb;refine .inr (.inr ⟨fun e=>hn e.symm,hb,?_⟩)
   cases l with
   | nil=>exact⟨.inl rfl,h⟩
   | cons x r=>
    simp only[List.isEmpty_cons,Bool.false_eq_true,if_false]at h;rw[A2f]at h;split at h
    ·cases h
    ·exact⟨.inr (by assumption),h⟩
theorem F5d {H:Heap} {b g:Nat} {p:PV} {l:List UInt8} (h:Abs.look H b=some (bldR p g l)) (hg:A1e eB tyU H g l) (hl:l≠[]):g≠b:=by
 rintro rfl;rcases hg with hg | hg
 ·exact hl hg
 ·rw[hg]at h;injection h with h;injection h with h1 h2;exact absurd h1 (by decide)
theorem F2c {H:Heap} {nx b g:Nat} {p:PV} {l s:List UInt8} (h:Abs.look H b=some (bldR p g l)) (hp:p = .t (.v (.pointer none))\/p = .ptr b 0) (hg:A1e eB tyU H g l) (hs:s≠[]) (hlen:l.length+s.length<=140737488355328) :
  A1n Tryz.prog (G q) 77 [.ptr b 0,.t (sv (bs s))] H nx (.t (.tu [iv (s.length:Int),.v .nilIface])) (wsH H b g nx l (l++s)) (nx+1):=by
 refine⟨⟨_,(Tryz.f77.body).get!,Tryz.func77,by kernel_rfl,by kernel_rfl⟩,fun L w us hok hnx hargs=>?_⟩
 have hus:us = #[.pointer (some ⟨L.μ b,0,none⟩),.string (bs s)]:=by
  simp only[A0m,RepV,RepT]at hargs;obtain⟨x,xs,e,⟨_,rfl⟩,y,ys,rfl,rfl,rfl⟩:=hargs;exact Array.ext' e
 subst hus;obtain⟨arr,hb,hsz,hc⟩:=hok.rep b _ h;obtain⟨x0,ha0,_,hx0⟩:=hc 0 p rfl;obtain⟨v,ha1,_,hv⟩:=hc 1 (rowP eB g l) rfl
 have hp':x0 = .pointer none\/x0 = .pointer (some ⟨L.μ b,0,none⟩):=by
  rcases hp with rfl | rfl
  ·simp only[RepV,RepT]at hx0;exact .inl hx0
  ·simp only[RepV]at hx0;exact .inr hx0.2
 obtain⟨hbuf,hob⟩:=D1s hok hg hv;have hgl:l≠[]->Abs.look H g=some (A1p eB tyU l):=fun hl=>hg.resolve_left hl;have hbn:b<nx:=hnx▸hok.nx b _ h
 have hne:v.ownBlock≠some (L.μ b):=by
  rw[hob]
  cases l with
  | nil=>simp
  | cons y r=>
   intro e;injection e with e;exact F5d h hg (by simp) (hok.inj _ _ _ _ (hgl (by simp)) h e)
 have hl1:(byV l).length=l.length:=List.length_map ..;have hl2:(bs s).size=s.length:=rfl;refine(F5c (L.μ b) arr x0 v (byV l) (bs s) w hp' hb ha0 ha1 (by rw[hl1];exact hbuf) hne (by rw[hl1,hl2];exact hlen)).mono ?_;rintro e w' ⟨rfl,v',hb',hbuf',hne',hW⟩;rw[hl1,hl2,E3i]at hbuf';have hslen:0<s.length:=List.length_pos_iff.2 hs
 obtain⟨g',cap,cur,rfl,hg',hncap,hcap,htake⟩:∃g' cap cur,v' = .slice (some ⟨g',0,none⟩) (l.length+s.length) cap/\w'.heap[g']?=some (.cells cur tyU (0,0))/\l.length+s.length<=cap/\cap<=cur.size/\cur.toList.take (l.length+s.length)=byV l++byV s:=by
  rcases hbuf'.2 with⟨_,h0⟩ | h
  ·omega
  ·exact h
 have hmb:L.μ b<w.heap.size:=(Array.getElem?_eq_some_iff.1 hb).1;have hg'lt:g'<w'.heap.size:=(Array.getElem?_eq_some_iff.1 hg').1;have hg'b:g'≠L.μ b:=fun e=>hne' (by rw[e];rfl)
 have hgn:(l≠[]/\g'=L.μ g)\/g'=w.heap.size:=by
  rcases hW.fresh with h1 | h1
  ·left;rw[hob]at h1
   cases l with
   | nil=>cases h1
   | cons y r=>injection h1 with h1;exact⟨by simp,h1⟩
  ·right;injection h1
 have hkeep:∀k,k<w.heap.size->k≠L.μ b->(l=[]\/k≠L.μ g)->w'.heap[k]?=w.heap[k]?:=fun k hk hkb hkg=>hW.block k hk (fun e=>hkb (by injection e)) (fun e=>by
  rw[hob]at e
  cases l with
  | nil=>cases e
  | cons y r=>
   injection e with e;rcases hkg with h | h
   ·cases h
   ·exact h e)
 have hI:∀k,L.I k->k<w.heap.size/\k≠L.μ b/\(l=[]\/k≠L.μ g):=fun k hk=>by
  refine⟨hok.lt k hk,fun e=>hok.apart b _ h (e▸hk),?_⟩
  by_cases hl:l=[]
  ·exact .inl hl
  ·exact .inr fun e=>hok.apart g _ (hgl hl) (e▸hk)
 have hother:∀k r,Abs.look H k=some r->k≠b->(l=[]\/k≠g)->w'.heap[L.μ k]?=w.heap[L.μ k]?:=fun k r hk hkb hkg=>by
  refine hkeep _ (hok.rep k r hk).lt (fun e=>hkb (hok.inj _ _ _ _ hk h e)) ?_;rcases hkg with hl | hkg
  ·exact .inl hl
  ·by_cases hl:l=[]
   ·exact .inl hl
   ·exact .inr fun e=>hkg (hok.inj _ _ _ _ hk (hgl hl) e)
 let L':Abs.Loc:=⟨L.I,fun k=>if k=nx then g' else L.μ k,nx+1⟩
 have hμ:∀k,k≠nx->L'.μ k=L.μ k:=fun k hk=>if_neg hk;have hμn:L'.μ nx=g':=if_pos rfl
 have hnb:b≠nx:=by omega
 have hm:Mono L w L' w':=⟨fun k hk=>⟨hk,by have:=hI k hk;exact hkeep k this.1 this.2.1 this.2.2⟩,by show L.nx<=nx+1;omega,fun k hk=>hμ k (by omega),hW.size,hW.shape⟩
 have hIg:¬L.I g':=by
  rcases hgn with⟨hl,e⟩ | e
  ·rw[e];exact hok.apart g _ (hgl hl)
  ·rw[e];intro hh;have:=hok.lt _ hh;omega
 have hmne:l++s≠[]:=by simp[hs]
 refine⟨.tuple #[.int .i64 (bs s).size,.nilIface],L',rfl,?_,⟨fun k hk=>Nat.lt_of_lt_of_le (hok.lt k hk) hW.size,fun k r hk=>?_,fun k r hk=>?_,fun k k' r r' hk hk' e=>?_,fun k r hk=>?_,A2o hok hm.keeps⟩,rfl,hm,⟨hW.size,fun k hk hkm=>?_,fun _ h=>h,fun _ h=>.inl h,fun k hk=>?_,hW.shape,⟨hW.os,hW.tape,hW.output⟩⟩⟩
 ·simp[RepV,RepT,RepL,hl2]
 ·rcases B0x hk with⟨rfl,rfl⟩ | ⟨_,rfl,rfl⟩ | ⟨h1,h2,h3,h4⟩
  ·rw[hμn];refine⟨cur,hg',?_,fun j c hj=>?_⟩
   ·rw[D1r,List.length_map,List.length_map,List.length_append];omega
   ·rw[D1r,List.getElem?_map,List.getElem?_map]at hj
    cases hy:(l++s)[j]? with
    | none=>rw[hy]at hj;cases hj
    | some y=>
     rw[hy]at hj;injection hj with hj;subst hj
     have hjl:j<l.length+s.length:=by have:=(List.getElem?_eq_some_iff.1 hy).1;rwa[List.length_append]at this
     refine⟨.int .u8 y.toNat,?_,rfl,by simp only[RepV,RepT]⟩
     have:(cur.toList.take (l.length+s.length))[j]?=some (.int .u8 y.toNat):=by
      rw[htake,show byV l++byV s=byV (l++s)from(List.map_append ..).symm];simp only[byV,List.getElem?_map,hy,Option.map_some]
     rw[List.getElem?_take,if_pos hjl]at this;simpa using this
  ·rw[hμ _ hnb];refine⟨_,hb',by simpa using hsz,fun j c hj=>?_⟩;have h2:1<arr.size:=(Array.getElem?_eq_some_iff.1 ha1).1
   match j,hj with
   | 0,hj=>
    injection hj with hj;subst hj;refine⟨.pointer (some ⟨L.μ k,0,none⟩),?_,rfl,?_⟩
    ·rw[Array.getElem?_setIfInBounds,if_neg (by omega),Array.getElem?_setIfInBounds,if_pos rfl,if_pos (by omega)]
    ·simp only[RepV];exact⟨by show k<nx+1;omega,by rw[hμ _ hnb]⟩
   | 1,hj=>
    injection hj with hj;subst hj;refine⟨.slice (some ⟨g',0,none⟩) (l.length+s.length) cap,?_,rfl,?_⟩
    ·rw[Array.getElem?_setIfInBounds,if_pos rfl,if_pos (by simp;omega)]
    ·obtain⟨y,r,e⟩:=List.exists_cons_of_ne_nil hmne;have hel:(l++s).length=l.length+s.length:=List.length_append ..;rw[e]at hel ⊢;simp only[rowP,RepV,hμn,hel];refine⟨by show nx<nx+1;omega,hg'lt,cap,rfl,hncap,fun arr' ty fz he=>?_⟩;rw[hg']at he;injection he with he;injection he with he1 he2 he3;subst he1;show 0+cap*1<=_;omega
   | j+2,hj=>cases hj
  ·rw[hμ _ h1];exact(hok.rep k r h4).keep hm (hother k r h4 h2 h3)
 ·rcases B0x hk with⟨rfl,rfl⟩ | ⟨_,rfl,rfl⟩ | ⟨h1,h2,h3,h4⟩
  ·rw[hμn];exact hIg
  ·rw[hμ _ hnb];exact hok.apart k _ h
  ·rw[hμ _ h1];exact hok.apart k _ h4
 ·have key:∀k r,Abs.look (wsH H b g nx l (l++s)) k=some r->k≠nx->L.μ k≠g':=fun k r hk hkn=>by
   rcases B0x hk with⟨rfl,rfl⟩ | ⟨_,rfl,rfl⟩ | ⟨h1,h2,h3,h4⟩
   ·exact absurd rfl hkn
   ·exact fun e=>hg'b e.symm
   ·rcases hgn with⟨hl,e⟩ | e
    ·rw[e];intro e2;rcases h3 with h3 | h3
     ·exact hl h3
     ·exact h3 (hok.inj _ _ _ _ h4 (hgl hl) e2)
    ·rw[e];have:=(hok.rep k r h4).lt;omega
  have old:∀k r,Abs.look (wsH H b g nx l (l++s)) k=some r->k≠nx->∃r0,Abs.look H k=some r0:=fun k r hk hkn=>by
   rcases B0x hk with⟨rfl,rfl⟩ | ⟨_,rfl,rfl⟩ | ⟨h1,h2,h3,h4⟩
   ·exact absurd rfl hkn
   ·exact⟨_,h⟩
   ·exact⟨_,h4⟩
  by_cases k1:k=nx
  ·by_cases k2:k'=nx
   ·rw[k1,k2]
   ·rw[k1,hμn,hμ _ k2]at e;exact absurd e.symm (key k' r' hk' k2)
  ·by_cases k2:k'=nx
   ·rw[k2,hμn,hμ _ k1]at e;exact absurd e (key k r hk k1)
   ·rw[hμ _ k1,hμ _ k2]at e;obtain⟨r0,h0⟩:=old k r hk k1;obtain⟨r1,h1⟩:=old k' r' hk' k2;exact hok.inj _ _ _ _ h0 h1 e
 ·show k<nx+1;rcases B0x hk with⟨rfl,rfl⟩ | ⟨_,rfl,rfl⟩ | ⟨h1,h2,h3,h4⟩
  ·omega
  ·omega
  ·have:=hok.nx k _ h4;omega
 ·refine hkeep k hk (fun e=>hkm ⟨b,_,h,e.symm⟩) ?_
  by_cases hl:l=[]
  ·exact .inl hl
  ·exact .inr fun e=>hkm ⟨g,_,hgl hl,e.symm⟩
 ·obtain⟨k0,r,h0,e⟩:=hk;rcases B0x h0 with⟨rfl,rfl⟩ | ⟨_,rfl,rfl⟩ | ⟨h1,h2,h3,h4⟩
  ·rw[hμn]at e;rcases hgn with⟨hl,e2⟩ | e2
   ·exact .inr ⟨g,_,hgl hl,by rw[<-e,e2]⟩
   ·exact .inl (by omega)
  ·rw[hμ _ hnb]at e;exact .inr ⟨_,_,h,e⟩
  ·rw[hμ _ h1]at e;exact .inr ⟨_,_,h4,e⟩
open Go Go.Abs Go.Shelf Go.RowKit
section
variable {P : Program} {ρ : Ren}
theorem F2d (L:Lays.n169 P ρ) (X:Builder.Extra P ρ) (b g cap:Nat) (arr cur:Array Value) (l:List UInt8) (w:World) (hb:w.heap[b]?=some (.cells arr (ρ.t 72) (0,0)))
  (ha1:arr[1]?=some (.slice (some ⟨g,0,none⟩) l.length cap)) (hg:w.heap[g]?=some (.cells cur (ρ.t 5) (0,0))) (hnc:l.length<=cap) (hcs:cap<=cur.size) (htake:cur.toList.take l.length=byV l) (h0:l≠[]) (hlen:l.length<=140737488355328) :
  Calls P (ρ.f 169) #[.pointer (some ⟨b,0,none⟩)] w fun e w'=>e = .returned (.string (bs l))/\w'=w.drew.freeze ⟨g,0,none⟩ l.length:=by
 have hl0:l.length≠0:=by simpa using h0
 have c1:w.drew.cell? ⟨b,1,none⟩=some (.slice (some ⟨g,0,none⟩) l.length cap):=by
  have:w.drew.heap[b]?=some (.cells arr (ρ.t 72) (0,0)):=hb;rw[Lib.cell_of_heap this];exact ha1
 have hg':w.drew.heap[g]?=some (.cells cur (ρ.t 5) (0,0)):=hg
 have hSD:(Builtin.unsafeSliceData_ #[(ρ.t 37)] (ρ.t 127) #[.slice (some ⟨g,0,none⟩) l.length cap]).run P w.drew = .ok (.pointer (some ⟨g,0,none⟩)) w.drew:=
  Lib.run_unsafeSliceData_row _ _ _ _ _ _ (by omega)
 have hUS:(Builtin.unsafeString_ #[(ρ.t 127),(ρ.t 3)] (ρ.t 9) #[.pointer (some ⟨g,0,none⟩),.int .i64 l.length]).run P w.drew = .ok (.string ⟨l.toArray⟩) (w.drew.freeze ⟨g,0,none⟩ l.length):=by
  refine Lib.run_unsafeString_row w.drew (ρ.t 127) (ρ.t 3) (ρ.t 9) (ρ.t 5) L.t127 X.cellsByte g cur.size (by simp[World.shape?,hg']) l h0 (by omega) (by omega) ?_;intro j x hx;have hj:j<l.length:=(List.getElem?_eq_some_iff.1 hx).1
  have:(cur.toList.take l.length)[j]?=some (.int .u8 x.toNat):=by rw[htake];simp only[byV,List.getElem?_map,hx,Option.map_some]
  rw[List.getElem?_take,if_pos hj]at this
  have ea:(⟨g,0,none⟩:Addr).add j=⟨g,j,none⟩:=by simp only[Addr.add];split<;>simp_all
  rw[ea,Lib.cell_of_heap hg'];simpa using this
 have mixed:=L.mixed;have t72:=L.t72;have a72:=L.a72;have z72:=L.z72;have v72:=L.v72;have u72:=run_underlying L.t72;have t70:=L.t70;have a70:=L.a70;have z70:=L.z70;have v70:=L.v70;have u70:=run_underlying L.t70;have t37:=L.t37;have a37:=L.a37;have z37:=L.z37;have v37:=L.v37;have u37:=run_underlying L.t37;have t127:=L.t127;have a127:=L.a127;have z127:=L.z127;have v127:=L.v127;have u127:=run_underlying L.t127;have t3:=L.t3;have a3:=L.a3;have z3:=L.z3;have v3:=L.v3;have u3:=run_underlying L.t3;have t9:=L.t9;have a9:=L.a9;have z9:=L.z9;have v9:=L.v9;have u9:=run_underlying L.t9;have t5:=X.t5;have a5:=X.a5;have z5:=X.z5;have v5:=X.v5;have u5:=run_underlying X.t5
 go_enter L.f169,Body.n169_ntmps ρ
 go_wp2
 go_region_o
 all_goals (go_wp2;go_ret;exact⟨rfl,rfl⟩)
theorem F2e (L:Lays.n170 P ρ) (b:Nat) (arr:Array Value) (ao:Option Addr) (n cap:Nat) (w:World) (hb:w.heap[b]?=some (.cells arr (ρ.t 72) (0,0))) (ha1:arr[1]?=some (.slice ao n cap)) :
  Calls P (ρ.f 170) #[.pointer (some ⟨b,0,none⟩)] w fun e w'=>e = .returned (.int .i64 n)/\w'=w:=by
 have c1:w.cell? ⟨b,1,none⟩=some (.slice ao n cap):=by rw[Lib.cell_of_heap hb];exact ha1
 have mixed:=L.mixed;have t72:=L.t72;have a72:=L.a72;have z72:=L.z72;have v72:=L.v72;have u72:=run_underlying L.t72;have t70:=L.t70;have a70:=L.a70;have z70:=L.z70;have v70:=L.v70;have u70:=run_underlying L.t70;have t37:=L.t37;have a37:=L.a37;have z37:=L.z37;have v37:=L.v37;have u37:=run_underlying L.t37;have t3:=L.t3;have a3:=L.a3;have z3:=L.z3;have v3:=L.v3;have u3:=run_underlying L.t3
 go_enter L.f170,Body.n170_ntmps ρ
 go_wp2
 go_ret
 exact⟨rfl,rfl⟩
end
theorem D4z (w:World) (g k n:Nat) (h:k≠g):(w.drew.freeze ⟨g,0,none⟩ n).heap[k]?=w.heap[k]?:=by
 unfold World.freeze;split
 ·rfl
 ·simp only[Array.getElem?_modify];rw[if_neg (fun e=>h e.symm)];rfl
theorem C5o (w:World) (g n:Nat):(w.drew.freeze ⟨g,0,none⟩ n).heap.size=w.heap.size:=by
 unfold World.freeze;split
 ·rfl
 ·simp only[Array.size_modify];rfl
theorem C3m (w:World) (g n:Nat):Abs.A1z w (w.drew.freeze ⟨g,0,none⟩ n):=fun k hk arr ty fz he=>by
 by_cases hkg:k=g
 ·subst hkg;unfold World.freeze at he;split at he
  ·exact⟨arr,fz,he,rfl⟩
  ·simp only[Array.getElem?_modify,if_true]at he;obtain⟨ob,h1,h2⟩:=Option.map_eq_some_iff.1 he
   cases ob with
   | cells c e f=>
    obtain⟨lo,hi⟩:=f;injection h2 with h3 h4 h5;subst h3;subst h4;exact⟨c,_,h1,rfl⟩
   | _=>simp at h2
 ·rw[D4z w g k n hkg]at he;exact⟨arr,fz,he,rfl⟩
theorem F5e (w:World) (g n:Nat):A1t w (w.drew.freeze ⟨g,0,none⟩ n):=by
 unfold World.freeze;split
 ·exact⟨rfl,rfl,rfl⟩
 ·exact⟨rfl,rfl,rfl⟩
theorem D5a {H:Heap} {nx b g:Nat} {p:PV} {l:List UInt8} (h:Abs.look H b=some (bldR p g l)) (hg:A1e eB tyU H g l) (h0:l≠[]) (hlen:l.length<=140737488355328) :
  A1n Tryz.prog (G q) 85 [.ptr b 0] H nx (.t (sv (bs l))) (rem H g) nx:=by
 refine⟨⟨_,(Tryz.f85.body).get!,Tryz.func85,by kernel_rfl,by kernel_rfl⟩,fun L w us hok hnx hargs=>?_⟩
 have hus:us = #[.pointer (some ⟨L.μ b,0,none⟩)]:=by
  simp only[A0m,RepV,RepT]at hargs;obtain⟨x,xs,e,⟨_,rfl⟩,rfl⟩:=hargs;exact Array.ext' e
 subst hus;obtain⟨arr,hb,hsz,hc⟩:=hok.rep b _ h;obtain⟨v,ha1,_,hv⟩:=hc 1 (rowP eB g l) rfl;obtain⟨⟨_,hbuf⟩,hob⟩:=D1s hok hg hv;have hgl:=hg.resolve_left h0;have hpos:0<l.length:=List.length_pos_iff.2 h0;obtain⟨g',cap,cur,rfl,hg',hnc,hcs,htake⟩:=hbuf.resolve_left (by rintro⟨_,h⟩;omega)
 have hge:g'=L.μ g:=by
  rw[show l.isEmpty=false by cases l<;>simp_all]at hob;injection hob
 subst hge;refine(F2d (ρ:=Tryz.lays169_ren) Tryz.lays169 Tryz.Builder_Extra_169 (L.μ b) (L.μ g) cap arr cur l w hb ha1 hg' hnc hcs htake h0 hlen).mono ?_;rintro e w' ⟨rfl,rfl⟩;have hk:∀k,k≠L.μ g->(w.drew.freeze ⟨L.μ g,0,none⟩ l.length).heap[k]?=w.heap[k]?:=fun k hk=>D4z w _ k _ hk
 have hlook:∀k r,Abs.look (rem H g) k=some r->Abs.look H k=some r/\L.μ k≠L.μ g:=fun k r hk=>by
  rw[A2f]at hk;split at hk
  ·cases hk
  ·rename_i hkg;exact⟨hk,fun e=>hkg (hok.inj _ _ _ _ hk hgl e)⟩
 have hm:Mono L w L (w.drew.freeze ⟨L.μ g,0,none⟩ l.length):=⟨fun k hI=>⟨hI,hk k (fun e=>hok.apart g _ hgl (e▸hI))⟩,Nat.le_refl _,fun _ _=>rfl,by rw[C5o];exact Nat.le_refl _,C3m _ _ _⟩
 refine⟨_,L,rfl,by simp only[RepV,RepT],⟨fun k hI=>by rw[C5o];exact hok.lt k hI,fun k r hr=>?_,fun k r hr=>hok.apart k r (hlook k r hr).1,fun k k' r r' hr hr'=>hok.inj k k' r r' (hlook k r hr).1 (hlook k' r' hr').1,fun k r hr=>hok.nx k r (hlook k r hr).1,A2o hok hm.keeps⟩,hnx,hm,⟨by rw[C5o];exact Nat.le_refl _,fun k hk2 hkm=>hk k (fun e=>hkm ⟨g,_,hgl,e.symm⟩),fun _ h=>h,fun _ h=>.inl h,fun k hkm=>?_,C3m _ _ _,F5e _ _ _⟩⟩
 ·obtain⟨h1,h2⟩:=hlook k r hr;exact(hok.rep k r h1).keep hm (hk _ h2)
 ·obtain⟨k0,r,h1,e⟩:=hkm;exact .inr ⟨k0,r,(hlook k0 r h1).1,e⟩
theorem E7r {H:Heap} {nx b g:Nat} {p:PV} {l:List UInt8} (h:Abs.look H b=some (bldR p g l)) (hg:A1e eB tyU H g l) :
  A1n Tryz.prog (G q) 84 [.ptr b 0] H nx (.t (iv (l.length:Int))) H nx:=by
 refine⟨⟨_,(Tryz.f84.body).get!,Tryz.func84,by kernel_rfl,by kernel_rfl⟩,fun L w us hok hnx hargs=>?_⟩
 have hus:us = #[.pointer (some ⟨L.μ b,0,none⟩)]:=by
  simp only[A0m,RepV,RepT]at hargs;obtain⟨x,xs,e,⟨_,rfl⟩,rfl⟩:=hargs;exact Array.ext' e
 subst hus;obtain⟨arr,hb,hsz,hc⟩:=hok.rep b _ h;obtain⟨v,ha1,_,hv⟩:=hc 1 (rowP eB g l) rfl;obtain⟨⟨_,hbuf⟩,_⟩:=D1s hok hg hv
 obtain⟨ao,cap,rfl⟩:∃ao cap,v = .slice ao l.length cap:=by
  rcases hbuf with⟨rfl,h0⟩ | ⟨g',cap,cur,rfl,_⟩
  ·exact⟨none,0,by rw[h0]⟩
  ·exact⟨_,_,rfl⟩
 refine(F2e (ρ:=Tryz.lays170_ren) Tryz.lays170 (L.μ b) arr ao l.length cap w hb ha1).mono ?_;rintro e w' ⟨rfl,rfl⟩;exact⟨_,L,rfl,by simp only[RepV,RepT],hok,hnx,Mono.refl _ _,Ext.refl _ _ _⟩
noncomputable def gJo (ts:List T):Option T:=g2 (tSl eStr) tStr (fun l s=>open Classical in if l.length<=1000/\(Lib.join (l.map (·.data.toList)) s.data.toList).length<=1000000000 then some (sv (bs (Lib.join (l.map (·.data.toList)) s.data.toList)))else none) ts
theorem hJo:GOK Tryz.prog (G q) 78 gJo:=A7t fun a b l s r ha hb hr=>by
 have e2:b = .v (.string s):=hb;subst e2;split at hr
 ·rename_i hc;injection hr with hr;subst hr;refine⟨⟨_,(Tryz.f78.body).get!,Tryz.func78,by kernel_rfl,by kernel_rfl⟩,fun I w us hlt hG hargs=>?_⟩
  obtain⟨J,hJ⟩:∃J,J=Lib.join (l.map (·.data.toList)) s.data.toList:=⟨_,rfl⟩
  rw[<-hJ]at hc ⊢
  have fin:Calls Tryz.prog 78 us w (fun e w'=>e = .returned (.string (bs J))/\Below w.heap.size w w')->Calls Tryz.prog 78 us w fun e w'=>∃v r I',e = .returned v/\r=sv (bs J)/\RepT I' w' r v/\A1t w w'/\w.heap.size<=w'.heap.size/\(∀g,g<w.heap.size->w'.heap[g]?=w.heap[g]?) /\
   (∀g,I g->I' g)/\(∀g,I' g->I g\/w.heap.size<=g)/\(∀g,I' g->g<w'.heap.size):=fun h=>h.mono fun e w' ⟨he,hb⟩=>
   ⟨_,_,I,he,rfl,by simp only[RepT],⟨hb.os,hb.tape,hb.output⟩,hb.size,hb.block,fun _ h=>h,fun _ h=>.inl h,fun g hg=>Nat.lt_of_lt_of_le (hlt g hg) hb.size⟩
  refine fin ?_
  have hnone:∀(a0:Option Addr) (c:Nat),l=[]->us = #[.slice a0 0 c,.string s]->Calls Tryz.prog 78 us w (fun e w'=>e = .returned (.string (bs J))/\Below w.heap.size w w'):=fun a0 c hl hu=>by
   subst hl;subst hu
   have:J=[]:=by rw[hJ];rfl
   subst this
   exact(Tryz.strings_Join_none a0 c s w).mono fun e w' h=>⟨h.1,A9i h.2⟩
  rcases ha with⟨rfl,hl⟩ | rfl
  ·simp only[RepL,RepT]at hargs;obtain⟨x,xs,e,rfl,y,ys,rfl,rfl,rfl⟩:=hargs;exact hnone none 0 hl (Array.ext' e)
  ·simp only[slT,RepL,RepT]at hargs;obtain⟨x,xs,e,⟨a0,c,rfl,hnc,hx⟩,y,ys,rfl,rfl,rfl⟩:=hargs;rcases hx with⟨hl,_⟩ | ⟨hsp,hI,hC⟩
   ·have hl':=List.eq_nil_of_length_eq_zero hl;refine hnone (some a0) c hl' (Array.ext' (by rw[e,hl]))
   ·obtain⟨bk,o,sp⟩:=a0;simp only at hsp hI hC;subst hsp;have hu:us = #[.slice (some ⟨bk,o,none⟩) l.length c,.string s]:=Array.ext' e;subst hu;rw[D3n]at hC;rw[hJ]
    exact Tryz.strings_Join bk o c l s w (fun j x hx=>by
     obtain⟨z,h1,_,h2⟩:=hC.at_ j (c:=.v (.string x)) (by rw[List.getElem?_map,hx];rfl);simp only[RepT]at h2;subst h2
     exact h1) (hlt bk hI) (by omega) hnc (by rw[<-hJ];omega)
 ·cases hr
open Go Go.Abs
section
variable {H : Heap} {b g NX : Nat} {l m : List UInt8}
theorem C3n {R:Row} (h:Abs.look H b=some R) (hb:b≠NX) (hg:l=[]\/b≠g):Abs.look (wsH H b g NX l m) b=some (bldR (.ptr b 0) NX m):=by
 unfold wsH;rw[look_cons,if_neg (Ne.symm hb),A1d,if_pos rfl]
 cases l with
 | nil=>show Option.map _ (Abs.look H b)=_;rw[h];rfl
 | cons x r=>
  rw[if_neg (by simp),A2f,if_neg (hg.resolve_left (by simp)),h];rfl
theorem B1u {k:Nat} (hk:k≠b) (hg:l=[]\/k≠g) (hn:k≠NX):Abs.look (wsH H b g NX l m) k=Abs.look H k:=by
 unfold wsH;rw[look_cons,if_neg (Ne.symm hn),A1d,if_neg hk]
 cases l with
 | nil=>rfl
 | cons x r=>rw[if_neg (by simp),A2f,if_neg (hg.resolve_left (by simp))]
theorem C3o:A1e eB tyU (wsH H b g NX l m) NX m:=.inr (by unfold wsH;rw[look_cons,if_pos rfl])
theorem B1v (hb:b<NX):(∀k x,Abs.look H k=some x->k<NX)->∀k x,Abs.look (wsH H b g NX l m) k=some x->k<NX+1:=fun hf k x hk=>by
 rcases B0x hk with⟨rfl,_⟩ | ⟨_,rfl,_⟩ | ⟨_,_,_,h4⟩
 ·omega
 ·omega
 ·have:=hf k x h4;omega
end
theorem W.lift {f:FuncId} {ps:List PV} {p:PV} {l m:List UInt8} {R0:Heap} {n0:Nat} {r:T}
  (h:A1n Tryz.prog (G q) f ps ([(0,bldR p 1 l)]++(rowH eB tyU 1 l++R0)) n0 (.t r) ([(0,bldR (.ptr 0 0) n0 m)]++(rowH eB tyU n0 m++R0)) (n0+1))
  {H:Heap} {NX:Nat} (σ:Nat->Nat) (hσ:∀x,x<n0->σ x<NX) (hinj:∀x y,x<n0->y<n0->σ x=σ y->x=y) (hn0:2<=n0) (hm:m≠[])
  (hp:under n0 p=true) (h0:Abs.look H (σ 0)=some (bldR (ren σ p) (σ 1) l)) (hg:A1e eB tyU H (σ 1) l)
  (hR:∀x∈R0,Abs.look H (σ x.1)=some (A2u σ x.2)/\2<=x.1/\x.1<n0/\A2a n0 x.2=true) (hR2:∀x∈R0,A2u (A4o σ n0 NX) x.2=A2u σ x.2/\A2a (n0+1) x.2=true/\Abs.look R0 x.1=some x.2) (hps:A1g n0 ps=true) :
  A1n Tryz.prog (G q) f (renL σ ps) H NX (.t r) (wsH H (σ 0) (σ 1) NX l m) (NX+1):=by
 have h2:=A1n.lift h σ NX H (wsH H (σ 0) (σ 1) NX l m) hσ hinj (by omega) (fun x hx=>?_) hps rfl (fun x hx=>?_) (fun k x hk=>?_)
 ·rw[show NX+(n0+1-n0)=NX+1 by omega]at h2;exact h2
 ·rcases List.mem_append.1 hx with hx | hx
  ·simp only[List.mem_singleton]at hx;subst hx;refine⟨?_,by show 0<n0;omega,?_⟩
   ·rw[h0];simp only[bldR,A2u,renL,A7f]
   ·simp only[bldR,A2a,A1g,hp,A4p _ _ _ _ (show 1<n0 by omega),Bool.and_self]
  ·rcases List.mem_append.1 hx with hx | hx
   ·obtain⟨hn,rfl⟩:=A5r hx;exact⟨by show Abs.look H (σ 1)=_;rw[A2c];exact hg.resolve_left hn,by show 1<n0;omega,A1v _ _ _ _⟩
   ·obtain⟨h1,_,h3,h4⟩:=hR x hx;exact⟨h1,h3,h4⟩
 ·rcases List.mem_append.1 hx with hx | hx
  ·simp only[List.mem_singleton]at hx;subst hx;refine⟨by show 0<n0+1;omega,?_⟩;simp only[bldR,A2a,A1g,A4p _ _ _ _ (show n0<n0+1 by omega),Bool.and_self,under,Bool.and_true];exact decide_eq_true (by omega)
  ·rcases List.mem_append.1 hx with hx | hx
   ·obtain⟨_,rfl⟩:=A5r hx;exact⟨by show n0<n0+1;omega,A1v _ _ _ _⟩
   ·obtain⟨_,_,h3,h4⟩:=hR x hx;exact⟨by omega,(hR2 x hx).2.1⟩
 ·rcases B0x hk with⟨rfl,rfl⟩ | ⟨hkn,rfl,rfl⟩ | ⟨h1,h2,h3,h4⟩
  ·refine .inl ⟨n0,A1p eB tyU m,?_,by simp[A4o],by rw[A2c]⟩;exact((A1e.head eB tyU R0 n0 m).cons (k:=0) (by omega)).resolve_left hm
  ·refine .inl ⟨0,bldR (.ptr 0 0) n0 m,rfl,by simp[A4o];omega,?_⟩;have e0:A4o σ n0 NX 0=σ 0:=if_pos (by omega)
   have e1:A4o σ n0 NX n0=NX:=by simp[A4o]
   simp only[bldR,A2u,renL,ren,A7f,e0,e1]
  ·by_cases hx:∃y∈R0,σ y.1=k
   ·obtain⟨y,hy,rfl⟩:=hx;obtain⟨k1,k2,k3,k4⟩:=hR y hy;obtain⟨j1,j2,j3⟩:=hR2 y hy;refine .inl ⟨y.1,y.2,?_,by simp[A4o,k3],?_⟩
    ·show Abs.look ((0,_)::(rowH eB tyU n0 m++R0)) y.1=_;rw[look_cons,if_neg (by omega)]
     cases m with
     | nil=>exact j3
     | cons z r=>show Abs.look ((n0,_)::R0) y.1=_;rw[look_cons,if_neg (by omega)];exact j3
    ·rw[h4]at k1;injection k1 with k1;rw[j1,k1]
   ·refine .inr ⟨h4,fun b0 x0 hb0 e=>?_⟩;rcases List.mem_append.1 (A0k hb0)with h5 | h5
    ·simp only[List.mem_singleton]at h5;injection h5 with h5;subst h5;exact h2 e.symm
    ·rcases List.mem_append.1 h5 with h5 | h5
     ·obtain⟨hn,h6⟩:=A5r h5;injection h6 with h6;subst h6;rcases h3 with h3 | h3
      ·exact hn h3
      ·exact h3 e.symm
     ·exact hx ⟨_,h5,e⟩
abbrev pNil:PV:=.t (.v (.pointer none))
theorem C0f {B nx nx' n k b:Nat} {env env':List (Nat×PV)} {H R:Heap} {p:PV} {l:List UInt8} (h0:Abs.look H 0=some (bldR p k l)) (hp:p=pNil\/p = .ptr 0 0) (hr:A1e eB tyU H k l) (hb:b<nx') (hB:B<=b) (hb0:0<b) (hk0:k≠0)
  (hR:∀x∈R,Abs.look H x.1=some (A2u (fun x=>if x=b then k else x) x.2)/\x.1<nx'/\x.1≠b/\x.1≠k/\A2a nx' x.2=true/\x.1≠0)
  (he:∀x∈env',Abs.look env x.1=some (ren (fun x=>if x=b then k else x) x.2)/\under nx' x.2=true) :
  Sub Tryz.prog (G q) B ⟨env,H,nx,n⟩ ⟨env',[(0,bldR p b l)]++(rowH eB tyU b l++R),nx',n⟩:=by
 have s0:(if(0:Nat)=b then k else 0)=0:=if_neg (by omega);refine B3a (fun x=>if x=b then k else x) rfl (by show B<=nx';omega) (fun x hx=>by show(if x=b then k else x)=x;rw[if_neg (by omega)]) he (fun x hx=>?_) (fun x hx y hy e=>?_)
 ·rcases List.mem_append.1 hx with hx | hx
  ·simp only[List.mem_singleton]at hx;subst hx;refine⟨?_,by show 0<nx';omega,?_⟩
   ·show Abs.look H (if(0:Nat)=b then k else 0)=_;rw[s0,h0]
    have:ren (fun x=>if x=b then k else x) p=p:=by
     rcases hp with rfl | rfl
     ·rfl
     ·simp only[ren,s0]
    simp only[bldR,A2u,renL,A7f,this,if_true]
   ·have:under nx' p=true:=by
     rcases hp with rfl | rfl
     ·rfl
     ·exact decide_eq_true (by omega)
    simp only[bldR,A2a,A1g,this,A4p _ _ _ _ hb,Bool.and_self]
  ·rcases List.mem_append.1 hx with hx | hx
   ·obtain⟨hn,rfl⟩:=A5r hx;refine⟨?_,hb,A1v _ _ _ _⟩;show Abs.look H (if b=b then k else b)=_;rw[if_pos rfl,A2c];exact hr.resolve_left hn
   ·obtain⟨h1,h2,h3,h4,h5,h6⟩:=hR x hx;refine⟨?_,h2,h5⟩;show Abs.look H (if x.1=b then k else x.1)=_;rw[if_neg h3];exact h1
 ·have cls:∀z,z∈[(0,bldR p b l)]++(rowH eB tyU b l++R)->z.1=0\/z.1=b\/(z.1≠0/\z.1≠b/\z.1≠k):=fun z hz=>by
   rcases List.mem_append.1 hz with hz | hz
   ·simp only[List.mem_singleton]at hz;subst hz;exact .inl rfl
   ·rcases List.mem_append.1 hz with hz | hz
    ·obtain⟨_,rfl⟩:=A5r hz;exact .inr (.inl rfl)
    ·obtain⟨h1,h2,h3,h4,h5,h6⟩:=hR z hz;exact .inr (.inr ⟨h6,h3,h4⟩)
  have e:(if x.1=b then k else x.1)=(if y.1=b then k else y.1):=e;have cx:=cls x hx;have cy:=cls y hy;split at e<;>split at e<;>omega
noncomputable def A3s:A0j:=cm Tryz.f171 17
theorem A6y {q:Gl}:FnOK Tryz.prog (G q) 171 2 17 A3s [(.tmp 4)]:=fk Tryz.func171 (by kernel_rfl) (by kernel_rfl)
theorem F2f {H:Heap} {nx b g:Nat} {p:PV} {l:List UInt8} (h:Abs.look H b=some (bldR p g l)) (hp:p=pNil\/p = .ptr b 0) :
  A1n Tryz.prog (G q) 129 [.ptr b 0] H nx (.t (.tu [])) (upd H b (bldR (.ptr b 0) g l)) nx:=by
 refine⟨⟨_,(Tryz.f129.body).get!,Tryz.func129,by kernel_rfl,by kernel_rfl⟩,fun L w us hok hnx hargs=>?_⟩
 have hus:us = #[.pointer (some ⟨L.μ b,0,none⟩)]:=by
  simp only[A0m,RepV,RepT]at hargs;obtain⟨x,xs,e,⟨_,rfl⟩,rfl⟩:=hargs;exact Array.ext' e
 subst hus;obtain⟨arr,hb,hsz,hc⟩:=hok.rep b _ h;obtain⟨x0,ha0,_,hx0⟩:=hc 0 p rfl;obtain⟨v,ha1,hv1,hv⟩:=hc 1 (rowP eB g l) rfl;have hbn:b<nx:=hnx▸hok.nx b _ h;have hmb:L.μ b<w.heap.size:=(Array.getElem?_eq_some_iff.1 hb).1;have h1:1<arr.size:=(Array.getElem?_eq_some_iff.1 ha1).1
 have hlook:∀k r,Abs.look (upd H b (bldR (.ptr b 0) g l)) k=some r->(k=b/\r=bldR (.ptr b 0) g l)\/(k≠b/\Abs.look H k=some r):=fun k r hk=>by
  rw[A1d]at hk;split at hk
  ·rename_i e;obtain⟨_,_,rfl⟩:=A0i hk;exact .inl ⟨e,rfl⟩
  ·exact .inr ⟨by assumption,hk⟩
 have hold:∀k r,Abs.look (upd H b (bldR (.ptr b 0) g l)) k=some r->∃r0,Abs.look H k=some r0:=fun k r hk=>by
  rcases hlook k r hk with⟨rfl,_⟩ | ⟨_,h2⟩
  ·exact⟨_,h⟩
  ·exact⟨_,h2⟩
 have fin:∀w':World,w'.heap.size=w.heap.size->(∃arr',w'.heap[L.μ b]?=some (.cells arr' tyB (0,0))/\arr'.size=arr.size/\arr'[0]?=some (.pointer (some ⟨L.μ b,0,none⟩))/\arr'[1]?=some v)->(∀k,k≠L.μ b->w'.heap[k]?=w.heap[k]?)->A1z w w'->A1t w w' ->
   ∃v L',Ending.returned (.tuple #[]) = .returned v/\RepV Tryz.prog L' w' (.t (.tu [])) v/\A1i Tryz.prog (G q) L' (upd H b (bldR (.ptr b 0) g l)) w'/\L'.nx=nx/\Mono L w L' w'/\Ext L H w L' (upd H b (bldR (.ptr b 0) g l)) w':=by
  rintro w' hs ⟨arr',hb',hs',a0,a1⟩ hk hsh hout
  have hm:Mono L w L w':=⟨fun k hI=>⟨hI,hk k (fun e=>hok.apart b _ h (e▸hI))⟩,Nat.le_refl _,fun _ _=>rfl,by rw[hs];exact Nat.le_refl _,hsh⟩
  refine⟨_,L,rfl,by simp[RepV,RepT,RepL],⟨fun k hI=>by rw[hs];exact hok.lt k hI,fun k r hr=>?_,fun k r hr=>?_,fun k k' r r' hr hr'=>?_,fun k r hr=>?_,A2o hok hm.keeps⟩,hnx,hm,⟨by rw[hs];exact Nat.le_refl _,fun k hk2 hkm=>hk k (fun e=>hkm ⟨b,_,h,e.symm⟩),fun _ h=>h,fun _ h=>.inl h,fun k hkm=>?_,hsh,hout⟩⟩
  ·rcases hlook k r hr with⟨rfl,rfl⟩ | ⟨h2,h3⟩
   ·refine⟨arr',hb',by rw[hs'];exact hsz,fun j c hj=>?_⟩
    match j,hj with
    | 0,hj=>
     injection hj with hj;subst hj;exact⟨_,a0,rfl,by simp only[RepV];exact⟨by rw[hnx];exact hbn,trivial⟩⟩
    | 1,hj=>
     injection hj with hj;subst hj;exact⟨v,a1,hv1,hv.keep hm⟩
    | j+2,hj=>cases hj
   ·exact(hok.rep k r h3).keep hm (hk _ (fun e=>h2 (hok.inj _ _ _ _ h3 h e)))
  ·obtain⟨r0,h0⟩:=hold k r hr;exact hok.apart k r0 h0
  ·obtain⟨r0,h0⟩:=hold k r hr;obtain⟨r1,h1⟩:=hold k' r' hr';exact hok.inj k k' r0 r1 h0 h1
  ·obtain⟨r0,h0⟩:=hold k r hr;exact hok.nx k r0 h0
  ·obtain⟨k0,r,h1,e⟩:=hkm;obtain⟨r0,h0⟩:=hold k0 r h1;exact .inr ⟨k0,r0,h0,e⟩
 have hp':x0 = .pointer none\/x0 = .pointer (some ⟨L.μ b,0,none⟩):=by
  rcases hp with rfl | rfl
  ·simp only[RepV,RepT]at hx0;exact .inl hx0
  ·simp only[RepV]at hx0;exact .inr hx0.2
 rcases hp' with rfl | rfl
 ·refine(D4c (ρ:=Tryz.lays156_ren) { Tryz.lays156 with } Tryz.Builder_Extra_156.toX72 (L.μ b) arr.size w (by rw[Lib.cell_of_heap hb,ha0]) (by omega) (by simp[World.shape?,hb];rfl) (B7j _ (by
   have hc2:Tryz.prog.cellsOf 101=2:=by kernel_rfl
   show 1<=arr.size / Tryz.prog.cellsOf 101
   rw[hc2];omega)) (Lib.frozen_of_heap hb 0)).mono ?_
  rintro e w' ⟨rfl,rfl⟩;refine fin _ (by simp[World.setCell]) ⟨_,C5b hb _,by simp,?_,?_⟩ (fun k hk=>Below.heap_setCell _ _ _ _ hk) (B6b _ _ _ _) ⟨rfl,rfl,rfl⟩
  ·rw[Array.getElem?_setIfInBounds,if_pos rfl,if_pos (by omega)]
  ·rw[Array.getElem?_setIfInBounds,if_neg (by omega)];exact ha1
 ·refine(Any.Builder_copyCheck_used (ρ:=Tryz.lays156_ren) { Tryz.lays156 with } Tryz.Builder_Extra_156.toX72 (L.μ b) w (by rw[Lib.cell_of_heap hb,ha0])).mono ?_;rintro e w' ⟨rfl,rfl⟩;exact fin _ rfl ⟨arr,hb,rfl,ha0,ha1⟩ (fun _ _=>rfl) (A1z.refl _) (A1t.refl _)
theorem wb_ok (c:UInt8) {p:PV} {l:List UInt8} (hp:p=pNil\/p = .ptr 0 0) (hl:l.length+1<=140737488355328) :
  A1n Tryz.prog (G q) 171 [.ptr 0 0,.t (cv c)] ([(0,bldR p 1 l)]++(rowH eB tyU 1 l++[])) 2 (.t (.v .nilIface)) ([(0,bldR (.ptr 0 0) 2 (l++[c]))]++(rowH eB tyU 2 (l++[c])++[])) 3:=by
 obtain⟨H0,hH0⟩:∃H0,H0=[(0,bldR p 1 l)]++(rowH eB tyU 1 l++[]):=⟨_,rfl⟩
 obtain⟨H1,hH1⟩:∃H1,H1=upd H0 0 (bldR (.ptr 0 0) 1 l):=⟨_,rfl⟩
 rw[<-hH0]
 have h0:Abs.look H0 0=some (bldR p 1 l):=by rw[hH0];rfl
 have g0:A1e eB tyU H0 1 l:=by rw[hH0];exact(A1e.head eB tyU [] 1 l).cons (k:=0) (by omega)
 have h1:Abs.look H1 0=some (bldR (.ptr 0 0) 1 l):=by rw[hH1,A1d,if_pos rfl,h0];rfl
 have g1:A1e eB tyU H1 1 l:=g0.imp id fun h=>by rw[hH1,A1d,if_neg (by omega)];exact h
 have cc:=F2f (q:=q) (nx:=2) h0 hp;rw[<-hH1]at cc
 have C:Ctx Tryz.prog (G q) (orh [] [(129,hOne [.ptr 0 0] H0 2 (.t (.tu []),H1,2))]):=A0x.nil.ctxH (A1s.cons (A2x cc (fun hf b x hx=>by
  rw[hH1,A1d]at hx;split at hx
  ·omega
  ·exact hf b x hx)) .nil) mixed
 have e1:=A2j [.ptr 0 0] H0 2 (.t (.tu []),H1,2)
 have l1:A0f false 1 H1 (.ptr 0 1)=some (rowP eB 1 l):=by simp only[A0f,h1,bldR];rfl
 obtain⟨H2,hH2⟩:∃H2:Heap,H2=(2,.cells tyU [.t (cv c)])::H1:=⟨_,rfl⟩
 have bsl:∀m,A5z tyU 1 [.int .u8 0] 1 [(0,.t (cv c))] m=some (.row m 0 1 1,.cells tyU [.t (cv c)]):=fun m=>rfl
 have g2:A1e eB tyU H2 1 l:=by rw[hH2];exact g1.cons (k:=2) (by omega)
 have l2:Abs.look H2 2=some (.cells tyU ((eB.enc c).map .t)):=by rw[hH2];rfl
 obtain⟨b5,H5,n5,ap,r5,ne5,le5,old5,hb5⟩:=B8a (e:=eB) (ty:=tyU) (by':=1) (nx:=3) (m:=[c]) g2 (C4n (e:=eB) c l2) (by simp;omega) (by simp;omega);have ap:appM tyU 1 1 H2 3 (rowP eB 1 l) (.row 2 0 1 1)=some (rowP eB b5 (l++[c]),H5,n5):=ap
 have l50:Abs.look H5 0=some (bldR (.ptr 0 0) 1 l):=by rw[old5 0 (by omega) (by omega),hH2];exact h1
 obtain⟨H6,hH6⟩:∃H6:Heap,H6=upd H5 0 (bldR (.ptr 0 0) b5 (l++[c])):=⟨_,rfl⟩
 have st6:A0r 1 H5 (.ptr 0 1) (rowP eB b5 (l++[c]))=some H6:=by
  rw[hH6];simp only[A0r,l50,bldR,C8n];rfl
 have l60:Abs.look H6 0=some (bldR (.ptr 0 0) b5 (l++[c])):=by rw[hH6,A1d,if_pos rfl,l50];rfl
 have r6:A1e eB tyU H6 b5 (l++[c]):=r5.imp id fun h=>by rw[hH6,A1d,if_neg (by omega)];exact h
 refine A6y.callP rfl ?_;(conv in A3s=>cbv);refine A0a C ?_;simp -implicitDefEqProofs;refine A0a C ?_;simp -implicitDefEqProofs [e1];refine A0a C ?_;simp -implicitDefEqProofs [l1,bsl,<-hH2,ap,st6];refine A0c C ?_;simp -implicitDefEqProofs
 exact⟨.inr rfl,⟨[(4,.t (.v .nilIface))],[(0,bldR (.ptr 0 0) 2 (l++[c]))]++(rowH eB tyU 2 (l++[c])++[]),3,17⟩,[.t (.v .nilIface)],
  C0f l60 (.inr rfl) r6 (by omega) (by omega) (by omega) (by omega) (fun x hx=>(by cases hx)) (fun x hx=>by simp only[List.mem_singleton]at hx;subst hx;exact⟨rfl,rfl⟩),rfl,rfl,by rw[List.append_nil];rfl,rfl⟩
theorem W.at_ {f:FuncId} {ar:List T} {pre:Bool} {p:PV} {l m:List UInt8} {r:T} (h:∀p,(p=pNil\/p = .ptr 0 0)->A1n Tryz.prog (G q) f (if pre then .ptr 0 0::ar.map .t else ar.map .t++[.ptr 0 0]) ([(0,bldR p 1 l)]++(rowH eB tyU 1 l++[])) 2 (.t r) ([(0,bldR (.ptr 0 0) 2 m)]++(rowH eB tyU 2 m++[])) 3)
  (hm:m≠[]) {H:Heap} {NX b g:Nat} (h0:Abs.look H b=some (bldR p g l)) (hp:p=pNil\/p = .ptr b 0) (hg:A1e eB tyU H g l) (hb:b<NX) (hgn:g<NX) (hgb:g≠b) :
  A1n Tryz.prog (G q) f (if pre then .ptr b 0::ar.map .t else ar.map .t++[.ptr b 0]) H NX (.t r) (wsH H b g NX l m) (NX+1):=by
 obtain⟨p0,hp0,hpr⟩:∃p0,(p0=pNil\/p0 = .ptr 0 0)/\p=ren (fun x=>if x=0 then b else g) p0:=by
  rcases hp with rfl | rfl
  ·exact⟨pNil,.inl rfl,rfl⟩
  ·exact⟨.ptr 0 0,.inr rfl,rfl⟩
 have hpu:under 2 p0=true:=by rcases hp0 with rfl | rfl<;>rfl
 have ut:∀ar:List T,A1g 2 (ar.map .t)=true:=fun ar=>by
  induction ar with
  | nil=>rfl
  | cons x ar ih=>simp[A1g,under,ih]
 have rt:∀(σ:Nat->Nat) (ar:List T),renL σ (ar.map .t)=ar.map .t:=fun σ ar=>by
  induction ar with
  | nil=>rfl
  | cons x ar ih=>simp[renL,ren,ih]
 have ua:∀ar bs:List PV,A1g 2 ar=true->A1g 2 bs=true->A1g 2 (ar++bs)=true:=fun ar bs h1 h2=>by
  induction ar with
  | nil=>exact h2
  | cons x ar ih=>
   simp only[A1g,Bool.and_eq_true,List.cons_append]at h1 ⊢;exact⟨h1.1,ih h1.2⟩
 have ra:∀(σ:Nat->Nat) (ar bs:List PV),renL σ (ar++bs)=renL σ ar++renL σ bs:=fun σ ar bs=>by
  induction ar with
  | nil=>rfl
  | cons x ar ih=>simp only[renL,List.cons_append,ih]
 have:=W.lift (h p0 hp0) (H:=H) (NX:=NX) (fun x=>if x=0 then b else g) (fun x _=>by show(if x=0 then b else g)<NX;split<;>assumption)
  (fun x y hx hy e=>by
   have e:(if x=0 then b else g)=(if y=0 then b else g):=e
   split at e<;>split at e<;>omega) (Nat.le_refl _) hm hpu (by rw[<-hpr];exact h0) hg (fun x hx=>(by cases hx)) (fun x hx=>(by cases hx)) (by
    cases pre
    ·exact ua _ _ (ut ar) rfl
    ·simp only[if_true,A1g,under,ut,Bool.and_true];rfl)
 cases pre
 ·simp only[Bool.false_eq_true,if_false,ra,rt]at this ⊢;exact this
 ·simp only[if_true,renL,rt]at this ⊢;exact this
section
variable {H : Heap} {nx b g : Nat} {p : PV} {l : List UInt8}
theorem E3j {s:List UInt8} (h:Abs.look H b=some (bldR p g l)) (hp:p = .t (.v (.pointer none))\/p = .ptr b 0) (hg:A1e eB tyU H g l) (hs:s≠[]) (hlen:l.length+s.length<=140737488355328) (hb:b<nx) :
  HOK Tryz.prog (G q) 77 (hOne [.ptr b 0,.t (sv (bs s))] H nx (.t (.tu [iv (s.length:Int),.v .nilIface]),wsH H b g nx l (l++s),nx+1)):=A2x (F2c h hp hg hs hlen) (B1v hb)
theorem F5f (c:UInt8) (h:Abs.look H b=some (bldR p g l)) (hp:p = .t (.v (.pointer none))\/p = .ptr b 0) (hg:A1e eB tyU H g l) (hlen:l.length+1<=140737488355328) (hb:b<nx) (hgn:g<nx) (hgb:g≠b) :
  HOK Tryz.prog (G q) 171 (hOne [.ptr b 0,.t (cv c)] H nx (.t (.v .nilIface),wsH H b g nx l (l++[c]),nx+1)):=
 A2x (W.at_ (pre:=true) (ar:=[cv c]) (fun p hp=>wb_ok c hp hlen) (by simp) h hp hg hb hgn hgb) (B1v hb)
end
def PrOK (q:Gl) (d:Dv):Prop:=∀(c:List T) (p:PV) (l:List UInt8),Abs.IsD d c->(p=pNil\/p = .ptr 0 0)->l.length+(prtD d).length<=4000000000000 ->
 A1n Tryz.prog (G q) 132 [.t (.ag c),.ptr 0 0] ([(0,bldR p 1 l)]++(rowH eB tyU 1 l++[])) 2 (.t (.tu [])) ([(0,bldR (.ptr 0 0) 2 (l++prtD d))]++(rowH eB tyU 2 (l++prtD d)++[])) 3
theorem E3k (d:Dv):prtD d≠[]:=by cases d;rw[prtD];simp
theorem F5g {d:Dv} (hd:PrOK q d) {c:List T} (hc:Abs.IsD d c) {H:Heap} {nx b g:Nat} {p:PV} {l:List UInt8} (h:Abs.look H b=some (bldR p g l)) (hp:p = .t (.v (.pointer none))\/p = .ptr b 0) (hg:A1e eB tyU H g l) (hlen:l.length+(prtD d).length<=4000000000000) (hb:b<nx) (hgn:g<nx) (hgb:g≠b) :
  HOK Tryz.prog (G q) 132 (hOne [.t (.ag c),.ptr b 0] H nx (.t (.tu []),wsH H b g nx l (l++prtD d),nx+1)):=
 A2x (W.at_ (pre:=false) (ar:=[.ag c]) (fun p hp=>hd c p l hc hp hlen) (by simp[E3k]) h hp hg hb hgn hgb) (B1v hb)
def tRow (k:Int) (n:ByteArray) (f t:Int) (tk:T):Row:=.cells 156 [.t (iv k),.t (sv n),.t (iv f),.t (iv t),.t tk]
structure PS (H:Heap) (g:Nat) (p:PV) (l:List UInt8) (X:Row):Prop where
 r0:Abs.look H 0=some (bldR p g l)
 r2:Abs.look H 2=some X
 rg:A1e eB tyU H g l
 hp:p=pNil\/p = .ptr 0 0
section
variable {H : Heap} {g nx : Nat} {p : PV} {l m : List UInt8} {X : Row}
theorem PS.next (h:PS H g p l X) (g0:g≠0) (g2:g≠2) (hn:2<nx):PS (wsH H 0 g nx l m) nx (.ptr 0 0) m X where
 r0:=C3n h.r0 (by omega) (.inr (Ne.symm g0))
 r2:=(B1u (by omega) (.inr (Ne.symm g2)) (by omega)).trans h.r2
 rg:=C3o
 hp:=.inr rfl
theorem PS.byte (c:UInt8) (h:PS H g p l X) (g0:g≠0) (g2:g≠2) (hn:2<nx) (hgn:g<nx) (hlen:l.length+1<=4000000000000) :
  ∃t H2,H2=wsH H 0 g nx l (l++[c])/\PS H2 nx (.ptr 0 0) (l++[c]) X/\HOK Tryz.prog (G q) 171 t/\t [.ptr 0 0,.t (cv c)] H nx=some (.t (.v .nilIface),H2,nx+1):=
 ⟨_,_,rfl,h.next g0 g2 hn,F5f c h.r0 h.hp h.rg (by omega) (by omega) hgn g0,A2j _ _ _ _⟩
theorem PS.write {s:List UInt8} (h:PS H g p l X) (g0:g≠0) (g2:g≠2) (hn:2<nx) (hs:s≠[]) (hlen:l.length+s.length<=4000000000000) :
  ∃t H2,H2=wsH H 0 g nx l (l++s)/\PS H2 nx (.ptr 0 0) (l++s) X/\HOK Tryz.prog (G q) 77 t/\t [.ptr 0 0,.t (sv (bs s))] H nx=some (.t (.tu [iv (s.length:Int),.v .nilIface]),H2,nx+1):=
 ⟨_,_,rfl,h.next g0 g2 hn,E3j h.r0 h.hp h.rg hs (by omega) (by omega),A2j _ _ _ _⟩
theorem PS.kid {d:Dv} (hd:PrOK q d) {c:List T} (hc:Abs.IsD d c) (h:PS H g p l X) (g0:g≠0) (g2:g≠2) (hn:2<nx) (hgn:g<nx) (hlen:l.length+(prtD d).length<=4000000000000) :
  ∃t H2,H2=wsH H 0 g nx l (l++prtD d)/\PS H2 nx (.ptr 0 0) (l++prtD d) X/\HOK Tryz.prog (G q) 132 t/\t [.t (.ag c),.ptr 0 0] H nx=some (.t (.tu []),H2,nx+1):=
 ⟨_,_,rfl,h.next g0 g2 hn,F5g hd hc h.r0 h.hp h.rg hlen (by omega) hgn g0,A2j _ _ _ _⟩
variable {k f t : Int} {n : ByteArray} {tk : T}
theorem PS.d0 (h:PS H g p l (tRow k n f t tk)):A0f false 1 H (.ptr 2 0)=some (.t (iv k)):=by simp only[A0f,h.r2];rfl
theorem PS.d1 (h:PS H g p l (tRow k n f t tk)):A0f false 1 H (.ptr 2 1)=some (.t (sv n)):=by simp only[A0f,h.r2];rfl
theorem PS.d2 (h:PS H g p l (tRow k n f t tk)):A0f false 1 H (.ptr 2 2)=some (.t (iv f)):=by simp only[A0f,h.r2];rfl
theorem PS.d3 (h:PS H g p l (tRow k n f t tk)):A0f false 1 H (.ptr 2 3)=some (.t (iv t)):=by simp only[A0f,h.r2];rfl
theorem PS.d4 (h:PS H g p l (tRow k n f t tk)):A0f false 1 H (.ptr 2 4)=some (.t tk):=by simp only[A0f,h.r2];rfl
def canW (A:List UInt8) (X:Row):Heap:=[(0,bldR (.ptr 0 0) 3 A)]++(rowH eB tyU 3 A++[(2,X)])
theorem PS.can (A:List UInt8) (X:Row):PS (canW A X) 3 (.ptr 0 0) A X:=by
 refine⟨rfl,?_,(A1e.head eB tyU [(2,X)] 3 A).cons (k:=0) (by omega),.inr rfl⟩;cases A<;>rfl
theorem PS.sub (h:PS H g (.ptr 0 0) l (tRow k n f t tk)) (hg:2<g) {env env':List (Nat×PV)} {N:Nat} (he:∀x∈env',Abs.look env x.1=some (ren (fun x=>if x=3 then g else x) x.2)/\under 4 x.2=true) :
  Sub Tryz.prog (G q) 2 ⟨env,H,nx,N⟩ ⟨env',canW l (tRow k n f t tk),4,N⟩:=
 C0f h.r0 (.inr rfl) h.rg (by omega) (by omega) (by omega) (by omega) (fun x hx=>by
  simp only[List.mem_singleton]at hx;subst hx
  exact⟨h.r2,by show 2<4;omega,by show 2≠3;omega,by show 2≠g;omega,rfl,by show 2≠0;omega⟩) he
end
theorem D1t {k f t:Int} {nm:ByteArray} {ks:List Dv} (hw:Wd (.mk k nm f t ks)) (hkids:∀x∈ks,PrOK q x):PrOK q (.mk k nm f t ks):=fun c p l h hp hl=>by
 obtain⟨tk,rfl,hk⟩:=h.parts
 obtain⟨N,hN⟩:∃N,N=lbs nm:=⟨_,rfl⟩
 obtain rfl:nm=bs N:=by rw[hN,A6q]
 obtain⟨W,hW⟩:∃W,W=prtD (.mk k (bs N) f t ks):=⟨_,rfl⟩
 have hlen:=hw.len;have hl':=hl;rw[<-hW]at hlen hl' ⊢;rw[prtD]at hW;have hI:=hw.2.1;rw[IntD]at hI;have d1:=D4h hI.2.1;have d2:=D4h hI.2.2.1;have l1:=hk.len;have lk:=B5b ks;have hw3:=hw.2.2;rw[nodD]at hw3
 obtain⟨X,hX⟩:∃X,X=tRow k (bs N) f t tk:=⟨_,rfl⟩
 obtain⟨P,hP⟩:∃P,P=l++40::(if k=1 then [43]else []:List UInt8):=⟨_,rfl⟩
 obtain⟨A1,hA1⟩:∃A,A=N++[32]:=⟨_,rfl⟩
 obtain⟨A2,hA2⟩:∃A,A=A1++Lib.itoa f:=⟨_,rfl⟩
 obtain⟨A3,hA3⟩:∃A,A=A2++[32]:=⟨_,rfl⟩
 obtain⟨A4,hA4⟩:∃A,A=A3++Lib.itoa t:=⟨_,rfl⟩
 obtain⟨B,hB⟩:∃B,B=P++A4:=⟨_,rfl⟩
 have hW5:B++prtK ks++[41]=l++W:=by
  rw[hB,hW,hA4,hA3,hA2,hA1,hP,show lbs (bs N)=N from rfl];simp
 have zt:(l++W).length<=4000000000000:=by rw[List.length_append];exact hl'
 have zB:B.length+(prtK ks).length+1<=4000000000000:=by rw[<-hW5]at zt;simp only[List.length_append,List.length_singleton]at zt;omega
 have zP:P.length+A4.length=B.length:=by rw[hB,List.length_append]
 have z0:l.length+1<=P.length:=by rw[hP];simp only[List.length_append,List.length_cons];omega
 have z4:A4.length=A3.length+(Lib.itoa t).length:=by rw[hA4,List.length_append]
 have z3:A3.length=A2.length+1:=by rw[hA3,List.length_append];rfl
 have z2:A2.length=A1.length+(Lib.itoa f).length:=by rw[hA2,List.length_append]
 have D:=hDe (q:=q);have c1:=fun Φ=>cat2 (Φ:=Φ) hA1 (by omega);have c2:=fun Φ=>cat2 (Φ:=Φ) hA2 (by omega);have c3:=fun Φ=>cat2 (Φ:=Φ) hA3 (by omega);have c4:=fun Φ=>cat2 (Φ:=Φ) hA4 (by omega)
 obtain⟨H1,hH1⟩:∃H1,H1=((2,X)::(0,bldR p 1 l)::rowH eB tyU 1 l:Heap):=⟨_,rfl⟩
 have ps1:PS H1 1 p l X:=by
  rw[hH1];exact⟨rfl,rfl,((A1e.head' eB tyU 1 l).cons (k:=0) (by omega)).cons (k:=2) (by omega),hp⟩
 obtain⟨t1,H2,hH2,ps2,ok1,e1⟩:=ps1.byte (q:=q) (nx:=3) 40 (by omega) (by omega) (by omega) (by omega) (by omega);have e1:t1 [.ptr 0 0,.t (.v (.int .u8 40))] H1 3=some (.t (.v .nilIface),H2,4):=e1;have cd:=A9o k (bs N) f t tk;refine B4y.callP rfl ?_;(conv in A7i=>cbv);refine A0a A1b ?_;simp -implicitDefEqProofs [cd]
 have hX':(Row.cells 156 [.t (iv k),.t (sv (bs N)),.t (iv f),.t (iv t),.t tk])=X:=by rw[hX];rfl
 rw[hX',<-hH1];refine A0a (A0x.nil.ctxH (A1s.cons ok1 .nil) mixed) ?_;simp -implicitDefEqProofs [e1];refine A1f (α:=Unit) (fun _=>⟨[(2,.ptr 2 0),(1,.ptr 0 0)],canW P X,4,42⟩) (fun _=>True) (fun _=>rfl) ?_ ?_
 ·have ds0:=(hX▸ps2:PS H2 3 (.ptr 0 0) (l++[40]) (tRow k (bs N) f t tk)).d0;by_cases h1:k=1
  ·have hb:(k==1)=true:=by simpa using h1
   rw[if_pos h1]at hP
   have hP:l++[40]++[43]=P:=by rw[hP];simp
   obtain⟨t2,H3,hH3,ps3,ok2,e2⟩:=ps2.byte (q:=q) (nx:=4) 43 (by omega) (by omega) (by omega) (by omega) (by rw[List.length_append];simp only[List.length_singleton];omega);have e2:t2 [.ptr 0 0,.t (.v (.int .u8 43))] H2 4=some (.t (.v .nilIface),H3,5):=e2;rw[hP,hX]at ps3;refine A0c (A0x.nil.ctxH (A1s.cons ok2 .nil) mixed) ?_;simp -implicitDefEqProofs [ds0,hb,e2];refine Abs.Next.mk () trivial ?_;rw[hX];refine ps3.sub (by omega) ?_;simp -implicitDefEqProofs [ren,under]
  ·have hb:(k==1)=false:=by simpa using h1
   rw[if_neg h1]at hP
   have hP:l++[40]=P:=by rw[hP]
   refine A0c A1b ?_;simp -implicitDefEqProofs [ds0,hb];refine Abs.Next.mk () trivial ?_;rw[hP,hX]at ps2;rw[hX];refine ps2.sub (by omega) ?_;simp -implicitDefEqProofs [ren,under]
 rintro _ -;have q1:=PS.can P X
 have hA4:A4≠[]:=by
  intro e;rw[e]at z4;simp only[List.length_nil]at z4;omega
 obtain⟨t3,H4,hH4,ps4,ok3,e3⟩:=q1.write (q:=q) (nx:=4) (s:=A4) (by omega) (by omega) (by omega) hA4 (by omega);rw[<-hB]at ps4
 obtain⟨Hc,hHc⟩:∃Hc,Hc=canW P X:=⟨_,rfl⟩
 rw[<-hHc]at q1 e3 ⊢;rw[hX]at q1 ps4;have C3:Ctx Tryz.prog (G q) _:=(A0x.cons D .nil).ctxH (A1s.cons ok3 .nil) mixed;refine A0a C3 ?_;simp -implicitDefEqProofs [q1.d1,q1.d2,q1.d3,c1,d1,c2,c3,d2,c4,e3]
 have lA:∀j A,A++prtK (ks.drop j)=B++prtK ks->A.length<=3999999999999:=fun j A e=>by
  have:=congrArg List.length e;simp only[List.length_append]at this;omega
 refine A1f (α:=Unit) (fun _=>⟨[(2,.ptr 2 0),(1,.ptr 0 0)],canW (B++prtK ks) X,4,42⟩) (fun _=>True) (fun _=>rfl) ?_ ?_
 ·refine A0a A1b ?_;simp -implicitDefEqProofs [ps4.d4,l1];refine A0n ?_;refine A1a (fun a:Nat×List UInt8=>(⟨[(30,.t (iv (a.1:Int))),(29,.t (iv (ks.length:Int))),(28,.t tk),(2,.ptr 2 0),(1,.ptr 0 0)],canW a.2 X,4,42⟩:A0b)) (fun a=>ks.length-a.1) (fun a=>a.1<=ks.length/\a.2++prtK (ks.drop a.1)=B++prtK ks) (0,B) (fun _=>rfl) ⟨Nat.zero_le _,rfl⟩ ?_ rfl ?_
  ·rw[hX];refine ps4.sub (by omega) ?_;simp -implicitDefEqProofs [ren,under]
  rintro⟨j,A⟩ ⟨hj,heq⟩;simp only at hj heq ⊢;by_cases hlt:j<ks.length
  ·obtain⟨x,hx⟩:∃x,ks[j]?=some x:=⟨_,List.getElem?_eq_getElem hlt⟩
   obtain⟨pp,cx,i1,ld5,hcx⟩:=C3a hk hx;have hm:=List.mem_of_getElem? hx;have hxl:=(hw.kid hm).len;rw[E2f hx]at heq
   have heq2:A++[32]++prtD x++prtK (ks.drop (j+1))=B++prtK ks:=by rw[<-heq];simp
   have hl2:=lA _ _ heq2;have q2:=PS.can A X
   obtain⟨Hc,hHc⟩:∃Hc,Hc=canW A X:=⟨_,rfl⟩
   rw[<-hHc]at q2 ⊢
   obtain⟨Ha,hHa⟩:∃Ha:Heap,Ha=(4,.cells 26 (cx.map .t))::Hc:=⟨_,rfl⟩
   have q3:PS Ha 3 (.ptr 0 0) A X:=by
    rw[hHa];exact⟨q2.r0,q2.r2,q2.rg.cons (k:=4) (by omega),q2.hp⟩
   simp only[List.length_append,List.length_singleton]at hl2;obtain⟨t4,H5,hH5,ps5,ok4,e4⟩:=q3.byte (q:=q) (nx:=5) 32 (by omega) (by omega) (by omega) (by omega) (by omega);have e4:t4 [.ptr 0 0,.t (.v (.int .u8 32))] Ha 5=some (.t (.v .nilIface),H5,6):=e4
   have l54:Abs.look H5 4=some (.cells 26 (cx.map .t)):=by
    rw[hH5];exact(B1u (by omega) (.inr (by omega)) (by omega)).trans (by rw[hHa];rfl)
   have ld4:A0f true 5 H5 (.ptr 4 0)=some (.t (.ag cx)):=by
    have:=C5g 4 [] x hcx;rw[A0f]at this ⊢;rw[l54];exact this
   obtain⟨t5,H6,hH6,ps6,ok5,e5⟩:=ps5.kid (q:=q) (nx:=6) (hkids x hm) hcx (by omega) (by omega) (by omega) (by omega) (by simp only[List.length_append,List.length_singleton];omega)
   have stn:A0r 5 ((4,zRow)::Hc) (.ptr 4 0) (.t (.ag cx))=some Ha:=by rw[hHa];exact C0b 4 Hc x hcx
   have ej:IntKind.i64.wrap ((j:Int)+1)=((j+1:Nat):Int):=A0p (by omega) (by omega)
   have hlti:(j:Int)<(ks.length:Int):=by omega
   refine A0a A1b ?_;simp -implicitDefEqProofs;refine A0a A1b ?_;simp -implicitDefEqProofs [hlt];refine A3m ?_;refine A0n ?_;refine A0a A1b ?_;simp -implicitDefEqProofs [i1,ld5,B0u,stn];refine A0a (A0x.nil.ctxH (A1s.cons ok4 .nil) mixed) ?_;simp -implicitDefEqProofs [e4];refine A0c (A0x.nil.ctxH (A1s.cons ok5 .nil) mixed) ?_;simp -implicitDefEqProofs [ld4,e5];refine⟨rfl,?_⟩;refine A0c A1b ?_;simp -implicitDefEqProofs [ej];refine Abs.Next.mk (j+1,A++[32]++prtD x) ⟨⟨by show j+1<=_;omega,heq2⟩,by show ks.length-(j+1)<ks.length-j;omega⟩ ?_;rw[hX]at ps6;rw[hX];refine ps6.sub (by omega) ?_;simp -implicitDefEqProofs [ren,under]
  ·rw[List.drop_of_length_le (by omega),prtK,List.append_nil]at heq;subst heq;refine A0c A1b ?_;simp -implicitDefEqProofs [hlt];exact Abs.Next.mk () trivial (A0e (by simp -implicitDefEqProofs))
 rintro _ -;have q7:=PS.can (B++prtK ks) X
 obtain⟨Hc,hHc⟩:∃Hc,Hc=canW (B++prtK ks) X:=⟨_,rfl⟩
 rw[<-hHc]at q7 ⊢;obtain⟨t8,H8,hH8,ps8,ok8,e8⟩:=q7.byte (q:=q) (nx:=4) 41 (by omega) (by omega) (by omega) (by omega) (by simp only[List.length_append];omega);have e8:t8 [.ptr 0 0,.t (.v (.int .u8 41))] Hc 4=some (.t (.v .nilIface),H8,5):=e8;rw[hW5]at ps8;refine A0c (A0x.nil.ctxH (A1s.cons ok8 .nil) mixed) ?_;simp -implicitDefEqProofs [e8];exact⟨.inl rfl,⟨[],[(0,bldR (.ptr 0 0) 2 (l++W))]++(rowH eB tyU 2 (l++W)++[]),3,42⟩,[],C0f ps8.r0 (.inr rfl) ps8.rg (by omega) (by omega) (by omega) (by omega) (fun x hx=>(by cases hx)) (fun x hx=>(by cases hx)),rfl,rfl,by rw[List.append_nil];rfl,rfl⟩
theorem prOK:∀(n:Nat) (d:Dv),nodD d<=n->Wd d->PrOK q d
 | 0,.mk k nm f t ks,h,hw=>by rw[nodD]at h;omega
 | n+1,.mk k nm f t ks,h,hw=>by
  rw[nodD]at h;exact D1t hw fun x hx=>prOK n x (by have:=B3o hx;omega) (hw.kid hx)
theorem D1u {c:List T} {d:Dv} (h:Abs.IsD d c) (hw:Wd d):A0z Tryz.prog (G q) 83 [.ag c] (· = sv (bs (prtD d))):=by
 have hlen:=hw.len;have hP:=prOK (q:=q) _ d (Nat.le_refl _) hw;have hne:prtD d≠[]:=E3k d
 cases d with
 | mk k nm f t ks=>
 obtain⟨tk,rfl,hk⟩:=h.parts
 obtain⟨W,hW⟩:∃W,W=prtD (.mk k nm f t ks):=⟨_,rfl⟩
 refine C5d.call rfl ?_;(conv in B4x=>cbv);have cd:=A9o k nm f t tk
 obtain⟨H1,hH1⟩:∃H1,H1=([(1,bldR pNil 0 []),(0,dRow k nm f t tk)]:Heap):=⟨_,rfl⟩
 have l1:Abs.look H1 1=some (bldR pNil 0 []):=by rw[hH1];rfl
 have c37:=Go.Proofs.YtmplckgbeaifkaaGreatDoor.W.at_ (q:=q) (pre:=false) (ar:=[.ag [iv k,sv nm,iv f,iv t,tk]]) (H:=H1) (NX:=2) (b:=1) (g:=0) (p:=pNil) (l:=[]) (fun p hp=>hP [iv k,sv nm,iv f,iv t,tk] p [] h hp (by simp only[List.length_nil];omega)) (by simpa using hne) l1 (.inl rfl) (.inl rfl) (by omega) (by omega) (by omega);have c37:A1n Tryz.prog (G q) 132 [.t (.ag [iv k,sv nm,iv f,iv t,tk]),.ptr 1 0] H1 2 (.t (.tu [])) (wsH H1 1 0 2 [] (prtD (.mk k nm f t ks))) 3:=c37;rw[<-hW]at c37 hne hlen ⊢
 obtain⟨H2,hH2⟩:∃H2,H2=wsH H1 1 0 2 [] W:=⟨_,rfl⟩
 rw[<-hH2]at c37
 have l2:Abs.look H2 1=some (bldR (.ptr 1 0) 2 W):=by rw[hH2];exact C3n l1 (by omega) (.inl rfl)
 have r2:A1e eB tyU H2 2 W:=by rw[hH2];exact C3o
 have c39:=D5a (q:=q) (nx:=3) l2 r2 hne (by omega)
 obtain⟨t37,e37,hok37⟩:∃t9,t9 [.t (.ag [iv k,sv nm,iv f,iv t,tk]),.ptr 1 0] H1 2=some (.t (.tu []),H2,3)/\HOK Tryz.prog (G q) 132 t9:=⟨_,A2j _ _ _ _,A2x c37 (by rw[hH2];exact B1v (by omega))⟩
 obtain⟨t39,e39,hok39⟩:∃t,t [.ptr 1 0] H2 3=some (.t (sv (bs W)),rem H2 2,3)/\HOK Tryz.prog (G q) 85 t:=⟨_,A2j _ _ _ _,A2x c39 fun h k x hk=>by
  rw[A2f]at hk;split at hk
  ·cases hk
  ·exact h k x hk⟩
 have ld0:A0f true 5 H1 (.ptr 0 0)=some (.t (.ag [iv k,sv nm,iv f,iv t,tk])):=by rw[hH1];rfl
 have hd:(Row.cells 26 [.t (iv k),.t (sv nm),.t (iv f),.t (iv t),.t tk])=dRow k nm f t tk:=rfl;refine A0a A1b ?_;simp -implicitDefEqProofs [cd];refine A0a A1b ?_;simp -implicitDefEqProofs;rw[hd,show([(1,Row.cells 101 [.t (.v (.pointer none)),.t nilS]),(0,dRow k nm f t tk)]:Heap)=H1 from hH1.symm];refine A0a (A0x.nil.ctxH (A1s.cons hok37 .nil) mixed) ?_;simp -implicitDefEqProofs [ld0,e37];refine A0a (A0x.nil.ctxH (A1s.cons hok39 .nil) mixed) ?_;simp -implicitDefEqProofs [e39];refine A0c A1b ?_;simp -implicitDefEqProofs
noncomputable def F5h:List T->Option T:=g1 tD fun d=>open Classical in if Wd d then some (sv (bs (prtD d)))else none
theorem F5i:GOK Tryz.prog (G q) 83 F5h:=A7r fun a x r ha hr=>by
 split at hr
 ·rename_i h;injection hr with hr;subst hr;obtain⟨c,rfl,hc⟩:=ha;exact D1u hc h
 ·cases hr
theorem D5b {c:List T} {d:Dv} (h:Abs.IsD d c) (hw:Wd d):F5h [.ag c]=some (sv (bs (prtD d))):=by
 show g1 _ _ _=_;rw[A7s (τ:=tD) (x:=d) ⟨c,rfl,h⟩,if_pos hw]
noncomputable def F2g:List T->Option T:=g1 tStr fun s=>some (parT s.data.toList)
theorem F5j:GOK Tryz.prog (G q) 165 F2g:=A7r fun a x r ha hr=>by
 injection hr with hr;subst hr;have:a = .v (.string x):=ha;subst this;have:=E7q (q:=q) (l:=x.data.toList);exact this
theorem D5c (s:ByteArray):F2g [sv s]=some (parT s.data.toList):=by
 show g1 _ _ _=_;rw[A7s (τ:=tStr) (x:=s) rfl]
end Go.Proofs.YtmplckgbeaifkaaGreatDoor
namespace Go.Abs
open Go
section
variable {α : Type} (c : α -> Int)
def cntL (l:List α):Nat:=l.countP fun x=>decide (c x<0)
def C9d (l:List α):Prop:=l.Pairwise fun a b=>c b<0->c a<0
variable {c}
theorem F2h (l:List α):cntL c l<=l.length:=List.countP_le_length
theorem D5d:∀{l:List α},C9d c l->∀(i:Nat) x,l[i]?=some x->(c x<0 ↔ i<cntL c l)
 | [],_,i,x,h=>by simp at h
 | a::r,hm,i,x,h=>by
  obtain⟨h1,h2⟩:=List.pairwise_cons.1 hm;have ih:=D5d h2;unfold cntL at ih ⊢;rw[List.countP_cons]
  cases i with
  | zero=>
   have e:a=x:=by simpa using h
   subst e;constructor
   ·intro hx;rw[if_pos (decide_eq_true hx)];omega
   ·intro hx;by_cases ha:c a<0
    ·exact ha
    ·rw[if_neg (by simpa using ha),Nat.add_zero]at hx;obtain⟨y,hy,k⟩:=List.countP_pos_iff.1 hx;exact h1 y hy (of_decide_eq_true k)
  | succ i=>
   have hx':r[i]?=some x:=by simpa using h
   rw[ih i x hx'];by_cases ha:c a<0
   ·rw[if_pos (decide_eq_true ha)];omega
   ·have hz:r.countP (fun x=>decide (c x<0))=0:=by
     rw[List.countP_eq_zero];intro y hy k;exact ha (h1 y hy (of_decide_eq_true k))
    rw[hz,if_neg (by simpa using ha)];omega
def hitL (c:α->Int) (l:List α):Bool:=match l[cntL c l]? with
 | some x=>decide (c x=0)
 | none=>false
end
section
variable {α : Type} {e : Enc α} {ty b : Nat} {H : Heap} {l : List α}
theorem C5p {by' nx:Nat} {m:List α} {src:PV} (h:Abs.look H b=some (A1p e ty l)) (hs:srcP H e.z src=some (m.length,(m.flatMap e.enc).map .t))
  (hb:(l.length+m.length)*by'<=140737488355328) (hb2:l.length+m.length<=9223372036854775807) :
  appM ty e.z by' H nx (.row b 0 l.length e.z) src=some (.row nx 0 (l++m).length e.z,(nx,A1p e ty (l++m))::rem H b,nx+1):=by
 have hl:((l.flatMap e.enc).map PV.t).length=l.length*e.z:=by rw[List.length_map,A1w]
 simp only[appM,hs,h,A1p,hl,true_and,if_pos (And.intro hb hb2)];simp
theorem D8f {i:Nat} {x:α} (hx:l[i]?=some x):A1c e.z (.row b 0 l.length e.z) (.t (iv (i:Int)))=some (.ptr b (i*e.z)):=by
 have:rowP e b l = .row b 0 l.length e.z:=by
  cases l with
  | nil=>simp at hx
  | cons y r=>rfl
 rw[<-this];exact D6w hx .i64
theorem E7s (h:Abs.look H b=some (A1p e ty l)):toT H (.row b 0 l.length e.z)=some (slT e l,[b]):=by
 have hl:((l.flatMap e.enc).map PV.t).length=l.length*e.z:=by rw[List.length_map,A1w]
 rw[toT,h,A1p];simp only[hl,Nat.zero_add,Nat.le_refl,if_true,List.drop_zero];rw[<-hl,List.take_length,allT_map_t];rfl
theorem D5e {P:Program} {G:A0q} {B k nx nx' n:Nat} {env env':List (Nat×PV)} {R:Heap} (h:Abs.look H k=some (A1p e ty l)) (hb:b<nx') (hB:B<=b)
  (hR:∀q∈R,Abs.look H q.1=some (A2u (fun x=>if x=b then k else x) q.2)/\q.1<nx'/\q.1≠b/\q.1≠k/\A2a nx' q.2=true)
  (he:∀q∈env',Abs.look env q.1=some (ren (fun x=>if x=b then k else x) q.2)/\under nx' q.2=true) :
  Sub P G B ⟨env,H,nx,n⟩ ⟨env',R++[(b,A1p e ty l)],nx',n⟩:=by
 refine B3a (fun x=>if x=b then k else x) rfl (by show B<=nx';omega) (fun x hx=>by show(if x=b then k else x)=x;rw[if_neg (by omega)]) he (fun q hq=>?_) (fun q hq q' hq' eqn=>?_)
 ·rcases List.mem_append.1 hq with hq | hq
  ·obtain⟨h1,h2,h3,h4,h5⟩:=hR q hq;refine⟨?_,h2,h5⟩;show Abs.look H (if q.1=b then k else q.1)=_;rw[if_neg h3];exact h1
  ·simp only[List.mem_singleton]at hq;subst hq;simp only[if_true,A2c,A1v];exact⟨h,hb,trivial⟩
 ·have key:∀q∈R++[(b,A1p e ty l)],q.1=b\/(q.1≠b/\q.1≠k):=by
   intro q hq;rcases List.mem_append.1 hq with hq | hq
   ·obtain⟨h1,h2,h3,h4,h5⟩:=hR q hq;exact .inr ⟨h3,h4⟩
   ·simp only[List.mem_singleton]at hq;subst hq;exact .inl rfl
  have e:(if q.1=b then k else q.1)=(if q'.1=b then k else q'.1):=eqn;rcases key q hq with h1 | ⟨h1,h2⟩<;>rcases key q' hq' with h1' | ⟨h1',h2'⟩
  ·rw[h1,h1']
  ·rw[if_pos h1,if_neg h1']at e;exact absurd e.symm h2'
  ·rw[if_neg h1,if_pos h1']at e;exact absurd e h2
  ·rw[if_neg h1,if_neg h1']at e;exact e
end
end Go.Abs
namespace Go.Proofs.YtmplckgbeaifkaaGreatDoor
open Go Go.Abs
variable {q : Gl}
abbrev pRow (p:Pr):Row:=.cells 59 [.t (iv p.kind),.t (sv p.name),.t (iv p.frm),.t (iv p.to)]
theorem F2i (p:Pr):A0y (.t (.ag (ePr.enc p)))=some [.t (iv p.kind),.t (sv p.name),.t (iv p.frm),.t (iv p.to)]:=rfl
theorem eqs_p (a b:Pr):A1m [.i,.s,.i,.i] (ePr.enc a) (ePr.enc b)=some (decide (a=b)):=by
 obtain⟨k,n,f,t⟩:=a;obtain⟨k',n',f',t'⟩:=b
 have h:A1m [.i,.s,.i,.i] (ePr.enc ⟨k,n,f,t⟩) (ePr.enc ⟨k',n',f',t'⟩)=some ((k==k')&&((n.toList==n'.toList)&&((f==f')&&((t==t')&&true)))):=by
  simp[A1m,ePr]
 rw[h,A2w];congr 1;rw[Bool.eq_iff_iff];simp[Pr.mk.injEq]
theorem E3l {t:T} {l:List Dc} (h:IsS eDc t l) {i:Nat} {x:Dc} (hx:l[i]?=some x):∃p,A1c 5 (.t t) (.t (iv (i:Int)))=some (.t (.pt p))/\(∀H,A0f true 5 H (.t (.pt p))=some (.t (.ag (eDc.enc x)))) /\
  (∀H,A0f true 4 H (.t (.pt (p.drop 0)))=some (.t (.ag (ePr.enc x.p))))/\(∀H,A0f false 1 H (.t (.pt (p.drop 4)))=some (.t (bv x.yes))):=by
 refine⟨_,h.iaddr hx .i64,fun H=>?_,fun H=>?_,fun H=>?_⟩
 ·simp only[A0f,if_true];rw[if_pos (by simp[eDc])];rfl
 ·simp only[A0f,if_true];rw[if_pos (by simp[eDc])];rfl
 ·rfl
def natI (l:List Nat):List Int:=l.map fun n:Nat=>(n:Int)
@[simp] theorem natI_len (l:List Nat):(natI l).length=l.length:=List.length_map _
@[simp] theorem natI_nil:natI []=[]:=rfl
section
variable {α : Type}
theorem E7t (e:Enc α) {l:List α} {k:Nat} (x:α) (hk:k<l.length):(l.flatMap e.enc).take (k*e.z)++e.enc x++(l.flatMap e.enc).drop (k*e.z+e.z)=(l.set k x).flatMap e.enc:=by
 rw[B4o,show k*e.z+e.z=(k+1)*e.z by rw[Nat.succ_mul],B0k,List.set_eq_take_append_cons_drop,if_pos hk,List.flatMap_append,List.flatMap_cons,List.append_assoc]
end
theorem A3z {H:Heap} {b:Nat} {x y:Row} (h:Abs.look H b=some x):Abs.look (upd H b y) b=some y:=by rw[A1d,if_pos rfl,h];rfl
abbrev zPr:Pr:=⟨0,⟨#[]⟩,0,0⟩
end Go.Proofs.YtmplckgbeaifkaaGreatDoor
