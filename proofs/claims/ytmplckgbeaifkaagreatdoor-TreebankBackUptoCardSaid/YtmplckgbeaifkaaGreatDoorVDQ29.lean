/- Auxiliary facts. -/
import Derived.Test.YtmplckgbeaifkaaGreatDoorVDQ28
import Derived.Lib.AppendZerosOnto
import Derived.Lib.Overlaps
import Derived.Laws.NewBlocks
import Derived.Laws.IdiomCopy
import Derived.Lib.SliceRun
set_option linter.unusedSimpArgs false
set_option maxRecDepth 100000
set_option maxHeartbeats 0
set_option linter.unusedVariables false
namespace Go.Proofs.YtmplckgbeaifkaaGreatDoor
open Go Go.Abs Go.RowKit Go.Lib
variable {q : Gl}
theorem B1w {P:Program} (w:World) (dT sT ty elem:TypeId) (z b o dLen dCap:Nat) (a:Addr) (sLen sCap:Nat) (cs:List Value)
  (hu:P.underlying dT=some (.slice elem)) (hs:(P.info? elem).map (·.size)=some z) (hn:cs.length=Nat.min sLen dLen*z)
  (hsrc:∀j v,cs[j]?=some v->w.cell? (a.add j)=some v) (hc:∀j,j<cs.length->(w.cell? ⟨b,o+j,none⟩).isSome=true) (hf:∀j,j<cs.length->w.frozen? ⟨b,o+j,none⟩=false) (h1:∀v∈cs,v.oneCell'=true) :
  (Builtin.copy_ #[dT,sT] ty #[.slice (some ⟨b,o,none⟩) dLen dCap,.slice (some a) sLen sCap]).run P w = .ok (goInt (Nat.min sLen dLen)) (w.setCells b o cs):=by
 have hl:=run_loadCells_list (P:=P) w a cs hsrc;have hst:=run_storeCells_cells (P:=P) b o cs 0 w (by simpa using hc) (by simpa using hf) h1
 cases hq:P.info? elem with
 | none=>simp[hq]at hs
 | some i=>
  have hi:i.size=z:=by simpa[hq]using hs
  simp[Builtin.copy_,run_underlying hu,Builtin.lenOf,Builtin.firstCells,sizeOf,typeInfo,hq,hi,<-hn,hl,hst]
abbrev tyI:Nat:=28
abbrev tyL:Nat:=37
theorem C0q:(Tryz.prog.info? tyI).map (·.size)=some 9:=by kernel_rfl
theorem B1c (b:Nat) (vs:List Value) (o:Nat) (w:World) (h:∀j,j<vs.length->(w.cell? ⟨b,o+j,none⟩).isSome=true) (k:Nat) (hk:(w.cell? ⟨b,k,none⟩).isSome=true):((w.setCells b o vs).cell? ⟨b,k,none⟩).isSome=true:=by
 by_cases hin:o<=k/\k<o+vs.length
 ·have:=World.cell?_setCells_in b vs o w h (k-o) (by omega);rw[show o+(k-o)=k by omega]at this;rw[this];rfl
 ·rw[World.cell?_setCells_out b vs o w ⟨b,k,none⟩ (fun _ _=>by show k<o\/o+vs.length<=k;omega)];exact hk
theorem C9j {P:Program} (w:World) {o:Oper} {a:Act} {K:Act->World->Prop} {Q:Exit->Act->World->Prop} (d s:Operand) (t t':TypeId)
  (ho:o.op = .call { callee:=.builtin .copy,args:=#[d,s],argTypes:=#[t,t'] }) (v u:Value) (hd:a.eval d=v) (hs:a.eval s=u) {v':Value} {w':World}
  (hr:(Builtin.copy_ #[t,t'] o.type #[v,u]).run P w = .ok v' w') (h:K (a.put o.dst v') w'):o.wp P a w K Q:=by
 unfold Oper.wp execOp;simp only[ho,resolve,invoke,builtin,Sem.run_bind,Sem.run_pure,Result.andThen_ok,List.map_toArray,List.map_cons,List.map_nil,hd,hs,hr];exact h
theorem A6a {P:Program} (w:World) {ops:Array Oper} {rest:List Oper} {o:Oper} {a:Act} {Q:Exit->Act->World->Prop} (hgd:o.guard=none) (d s:Operand) (t t':TypeId)
  (ho:o.op = .call { callee:=.builtin .copy,args:=#[d,s],argTypes:=#[t,t'] }) (v u:Value) (hd:a.eval d=v) (hs:a.eval s=u) {v':Value} {w':World}
  (hr:(Builtin.copy_ #[t,t'] o.type #[v,u]).run P w = .ok v' w') (h:wpList P ops Q rest (a.put o.dst v') w'):wpList P ops Q (o::rest) a w:=
 wpList_plain hgd fun _ hK=>C9j w d s t t' ho v u hd hs hr (hK _ _ h)
theorem B2p {P:Program} {ops:Array Oper} {o:Oper} {a:Act} {w:World} {K:Act->World->Prop} {Q:Exit->Act->World->Prop} {E:Prop}
  (hg:o.guard=none) (d x:Operand) (dT sT:TypeId) (hop:o.op=Op.call { callee:=Callee.builtin Builtin.copy,args:=#[d,x],argTypes:=#[dT,sT] })
  (v u:Value) (hd:a.eval d=v) (hx:a.eval x=u) {v':Value} {w':World} (hr:(Builtin.copy_ #[dT,sT] o.type #[v,u]).run P w = .ok v' w') (hK:K (a.put o.dst v') w') :
  if Region.wanted o (yielded ops a.tmps)=true then Oper.wp P o a w K Q else E:=by
 have hw:Region.wanted o (yielded ops a.tmps)=true:=by simp[Region.wanted,hg]
 rw[if_pos hw];unfold Oper.wp;simp[execOp,hop,resolve,invoke,builtin,hd,hx,hr,Result.andThen];exact hK
theorem D2d (w:World):(Go.sizeOf tyI).run Tryz.prog w = .ok 9 w:=by
 have h:=C0q
 cases hq:Tryz.prog.info? tyI with
 | none=>rw[hq]at h;cases h
 | some i=>
  rw[hq]at h;simp only[Option.map_some,Option.some.injEq]at h;simp[Go.sizeOf,typeInfo,hq,h]
theorem D8l:Tryz.prog.underlying tyL=some (.slice tyI):=Tryz.underlying37
theorem B1x {w:World} {b:Nat} {arr:Array Value} {ty:TypeId} {fz:Nat×Nat} (h:w.heap[b]?=some (.cells arr ty fz)) (k:Nat):w.cell? ⟨b,k,none⟩=arr[k]?:=by
 simp[World.cell?,h]
theorem C3s {w:World} {b:Nat} {arr:Array Value} {ty:TypeId} (h:w.heap[b]?=some (.cells arr ty (0,0))) (k:Nat):w.frozen? ⟨b,k,none⟩=false:=by
 simp[World.frozen?,h]
theorem E3z {l:List Value} {n o j:Nat} {v:Value} (h:((l.take n).drop o)[j]?=some v):l[o+j]?=some v:=by
 rw[List.getElem?_drop,List.getElem?_take]at h;split at h
 ·exact h
 ·cases h
theorem E4a (b n c i vb vc:Nat) (arr varr:Array Value) (w:World) (hi:i<n) (hroom:n+1<=c) (hn:n<=100000) (hvb:vb≠b)
  (hb:w.heap[b]?=some (.cells arr tyI (0,0))) (hv:w.heap[vb]?=some (.cells varr tyI (0,0))) (hfit:c*9<=arr.size) (hv9:9<=varr.size)
  (h1c:∀v∈(arr.toList.take (n*9)),v.oneCell'=true) (h1v:∀v∈varr.toList.take 9,v.oneCell'=true) :
  Calls Tryz.prog 73 #[.slice (some ⟨b,0,none⟩) n c,.int .i64 i,.slice (some ⟨vb,0,none⟩) 1 vc] w fun e w'=>
   e = .returned (.slice (some ⟨b,0,none⟩) (n+1) c)/\w'=(w.drew.setCells b ((i+1)*9) ((arr.toList.take (n*9)).drop (i*9))).setCells b (i*9) (varr.toList.take 9):=by
 have mixed:=mixed
 have hz2:¬((i:Int)=(n:Int)):=by omega
 have hz3:¬(c:Int)<(n:Int)+1:=by omega
 have hw0:IntKind.i64.wrap ((n:Int)+1)=(n:Int)+1:=by rw[IntKind.wrap_i64];omega
 have hw1:IntKind.i64.wrap ((i:Int)+1)=(i:Int)+1:=by rw[IntKind.wrap_i64];omega
 obtain⟨cs,hcs⟩:∃cs,cs=(arr.toList.take (n*9)).drop (i*9):=⟨_,rfl⟩
 obtain⟨vs,hvs⟩:∃vs,vs=varr.toList.take 9:=⟨_,rfl⟩
 rw[<-hcs,<-hvs];rw[<-hvs]at h1v
 have hal:n*9<=arr.toList.length:=by rw[Array.length_toList];omega
 have hcl:cs.length=(n-i)*9:=by rw[hcs,List.length_drop,List.length_take,Nat.min_eq_left hal,Nat.sub_mul]
 have hvl:vs.length=9:=by rw[hvs,List.length_take,Array.length_toList];omega
 have hcg:∀j v,cs[j]?=some v->arr[i*9+j]?=some v:=fun j v h=>by
  rw[hcs]at h;have:=E3z h;rwa[Array.getElem?_toList]at this
 have hvg:∀j v,vs[j]?=some v->varr[j]?=some v:=fun j v h=>by
  rw[hvs,List.getElem?_take]at h;split at h
  ·rwa[Array.getElem?_toList]at h
  ·cases h
 have h1s:∀v∈cs,v.oneCell'=true:=fun v h=>h1c v (by rw[hcs]at h;exact List.mem_of_mem_drop h)
 have hov:∀lb cb,(callFunc 126 #[.slice (some ⟨vb,0,none⟩) 1 vc,.slice (some ⟨b,(i+1)*9,none⟩) lb cb]).run Tryz.prog w = .ok (.value (.bool false)) w:=fun lb cb=>by
  rw[run_callFunc_extern Tryz.func126 (by kernel_rfl) (by kernel_rfl) (by kernel_rfl) (e:=Extern.SlicesOverlaps.overlaps #[tyL,tyL] #[4]) (by kernel_rfl),
   Lib.run_overlaps_apart w tyL 4 tyI D8l 9 D2d ⟨vb,0,none⟩ ⟨b,(i+1)*9,none⟩ 1 vc lb cb hvb tyI tyI varr.size arr.size (by simp[World.shape?,hv]) (by simp[World.shape?,hb]) (by omega) (by simp[World.frozen?,hv]) (by simp[World.frozen?,hv])]
  rfl
 have hcell:∀k,k<arr.size->(w.cell? ⟨b,k,none⟩).isSome=true:=fun k hk=>by
  rw[B1x hb,Array.getElem?_eq_getElem hk];rfl
 have m1:Nat.min (n+1-i) (n-i)=n-i:=Nat.min_eq_right (by omega);have m2:Nat.min 1 (n+1-i)=1:=Nat.min_eq_left (by omega)
 have hmul:(n-i)*9+(i+1)*9=(n+1)*9:=by rw[<-Nat.add_mul];congr 1;omega
 have hn1:(n+1)*9<=c*9:=Nat.mul_le_mul_right 9 hroom
 have hi9:i*9+9<=n*9:=by rw[<-Nat.succ_mul];exact Nat.mul_le_mul_right 9 hi
 have hcp1:∀ty dc sc,(Builtin.copy_ #[tyL,tyL] ty #[.slice (some ⟨b,(i+1)*9,none⟩) (n-i) dc,.slice (some ⟨b,i*9,none⟩) (n+1-i) sc]).run Tryz.prog w.drew = .ok (goInt ((n-i:Nat):Int)) (w.drew.setCells b ((i+1)*9) cs):=fun ty dc sc=>by
  have h:=B1w (P:=Tryz.prog) w.drew tyL tyL ty tyI 9 b ((i+1)*9) (n-i) dc ⟨b,i*9,none⟩ (n+1-i) sc cs D8l C0q (by rw[hcl,m1])
   (fun j v hj=>by
    rw[Addr.add_lit];show w.cell? _=_;rw[B1x hb]
    exact hcg j v hj)
   (fun j hj=>hcell _ (by omega)) (fun j hj=>C3s hb _) h1s
  rwa[m1]at h
 obtain⟨W1,hW1⟩:∃W1,W1=w.drew.setCells b ((i+1)*9) cs:=⟨_,rfl⟩
 rw[<-hW1]at hcp1
 have hcp2:∀(W:World),(∀x,W.cell? x=W1.cell? x)->(∀x,W.frozen? x=W1.frozen? x)->∀ty dc,(Builtin.copy_ #[tyL,tyL] ty #[.slice (some ⟨b,i*9,none⟩) (n+1-i) dc,.slice (some ⟨vb,0,none⟩) 1 vc]).run Tryz.prog W = .ok (goInt 1) (W.setCells b (i*9) vs):=fun W hWc hWf ty dc=>by
  have h:=B1w (P:=Tryz.prog) W tyL tyL ty tyI 9 b (i*9) (n+1-i) dc ⟨vb,0,none⟩ 1 vc vs D8l C0q (by rw[hvl,m2])
   (fun j v hj=>by
    rw[Addr.add_lit,hWc,hW1,World.cell?_setCells_out b _ _ _ _ (fun h _=>absurd h hvb)];show w.cell? _=_;rw[B1x hv,Nat.zero_add]
    exact hvg j v hj)
   (fun j hj=>by rw[hWc,hW1];exact B1c b cs ((i+1)*9) w.drew (fun t ht=>hcell ((i+1)*9+t) (by omega)) (i*9+j) (hcell (i*9+j) (by omega)))
   (fun j hj=>by rw[hWf,hW1,World.frozen?_setCells];exact C3s hb _) h1v
  rwa[m2]at h
 have hb1:(0:Int)<=(i:Int)+1:=by omega
 have hin:i<=n:=by omega
 have hb3:(i:Int)<=(n:Int)+1:=by omega
 have hb2:¬(c=i+1):=by omega
 have hb4:¬(c=i):=by omega
 have htn:((i:Int)+1).toNat=i+1:=by omega
 go_enter Tryz.func73,Tryz.ntmps73
 go_wp2_with (simp only[hov])
 go_region_law_o (refine B2p rfl _ _ tyL tyL rfl _ _ (by simp[Act.eval,Act.put]) (by simp[Act.eval,Act.put]) (hcp1 _ _ _) ?_)
 go_wp2_with (at_builtin;refine A6a _ rfl _ _ tyL tyL rfl _ _ rfl rfl (hcp2 _ (fun _=>by rw[hW1,hcs]) (fun _=>by rw[hW1,hcs]) _ _) ?_)
 go_ret
 first | exact⟨rfl,rfl⟩ | exact⟨rfl,by rw[hW1]⟩ | exact⟨rfl,by rw[hcs,hvs]⟩
theorem E4b:∃i0 z0,Tryz.prog.info? tyI=some i0/\i0.zero=some z0/\i0.size=9/\i0.bytes=136/\z0.cells.size=9:=
 ⟨(Tryz.prog.info? tyI).get!,((Tryz.prog.info? tyI).get!.zero).get!,by kernel_rfl,by kernel_rfl,by kernel_rfl,by kernel_rfl,by kernel_rfl⟩
theorem B2q (z:Array Value):∀k,(Builtin.zeroCells z k).size=k*z.size:=fun k=>by
 unfold Builtin.zeroCells;simp
theorem E8c (b n c i vb vc:Nat) (arr varr:Array Value) (w:World) (hi:i<n) (hroom:c=n) (hbig:n<=100000) (hvb:vb≠b)
  (hb:w.heap[b]?=some (.cells arr tyI (0,0))) (hv:w.heap[vb]?=some (.cells varr tyI (0,0))) (hfit:c*9<=arr.size) (hv9:9<=varr.size)
  (h1c:∀v∈(arr.toList.take (n*9)),v.oneCell'=true) (h1v:∀v∈varr.toList.take 9,v.oneCell'=true) :
  Calls Tryz.prog 73 #[.slice (some ⟨b,0,none⟩) n c,.int .i64 i,.slice (some ⟨vb,0,none⟩) 1 vc] w fun e w'=>
   ∃(g:Nat) (row:Array Value),n+1<=g/\g*9<=row.size/\(∀k,k<i*9->row[k]?=arr[k]?)/\e = .returned (.slice (some ⟨w.heap.size,0,none⟩) (n+1) g) /\
   w'=(((w.alloc (.cells row tyI)).drew.setCells w.heap.size (i*9) (varr.toList.take 9)).drew).setCells w.heap.size ((i+1)*9) ((arr.toList.take (n*9)).drop (i*9)):=by
 subst hroom;have mixed:=mixed
 have hz2:¬((i:Int)=(c:Int)):=by omega
 have hz3:(c:Int)<(c:Int)+1:=by omega
 have hw0:IntKind.i64.wrap ((c:Int)+1)=(c:Int)+1:=by rw[IntKind.wrap_i64];omega
 have hw1:IntKind.i64.wrap ((i:Int)+1)=(i:Int)+1:=by rw[IntKind.wrap_i64];omega
 have hw2:IntKind.i64.wrap ((c:Int)+1-(i:Int))=(c:Int)+1-(i:Int):=by rw[IntKind.wrap_i64];omega
 obtain⟨i0,z0,hi0,hz0,hzs,hzb,hzc⟩:=E4b
 obtain⟨cs,hcs⟩:∃cs,cs=(arr.toList.take (c*9)).drop (i*9):=⟨_,rfl⟩
 obtain⟨vs,hvs⟩:∃vs,vs=varr.toList.take 9:=⟨_,rfl⟩
 rw[<-hcs,<-hvs];rw[<-hvs]at h1v
 have hal:c*9<=arr.toList.length:=by rw[Array.length_toList];omega
 have hcl:cs.length=(c-i)*9:=by rw[hcs,List.length_drop,List.length_take,Nat.min_eq_left hal,Nat.sub_mul]
 have hvl:vs.length=9:=by rw[hvs,List.length_take,Array.length_toList];omega
 have hcg:∀j v,cs[j]?=some v->arr[i*9+j]?=some v:=fun j v h=>by
  rw[hcs]at h;have:=E3z h;rwa[Array.getElem?_toList]at this
 have hvg:∀j v,vs[j]?=some v->varr[j]?=some v:=fun j v h=>by
  rw[hvs,List.getElem?_take]at h;split at h
  ·rwa[Array.getElem?_toList]at h
  ·cases h
 have h1s:∀v∈cs,v.oneCell'=true:=fun v h=>h1c v (by rw[hcs]at h;exact List.mem_of_mem_drop h);have hbw:b<w.heap.size:=(Array.getElem?_eq_some_iff.1 hb).1;have hvw:vb<w.heap.size:=(Array.getElem?_eq_some_iff.1 hv).1
 have hmul:(c-i)*9+(i+1)*9=(c+1)*9:=by rw[<-Nat.add_mul];congr 1;omega
 have hi9:i*9+9<=c*9:=by rw[<-Nat.succ_mul];exact Nat.mul_le_mul_right 9 hi
 have htl:(arr.toList.take (i*9)).length=i*9:=by rw[List.length_take];omega
 have hold:(Builtin.firstCells i0.size i (.slice (some ⟨b,0,none⟩) i c)).run Tryz.prog w.drew = .ok (arr.toList.take (i*9)).toArray w.drew:=by
  rw[hzs]
  exact run_firstCells_some w.drew 9 i ⟨b,0,none⟩ i c (arr.toList.take (i*9)) (by rw[htl]) (fun j v hj=>by
   rw[Addr.add_lit];show w.cell? _=_;rw[B1x hb,Nat.zero_add];rw[List.getElem?_take]at hj;split at hj
   ·rwa[Array.getElem?_toList]at hj
   ·cases hj)
 have hkk:(c:Int)+1-(i:Int)=((c+1-i:Nat):Int):=by omega
 have hik:i+(c+1-i)=c+1:=by omega
 obtain⟨G,hG⟩:∃G,G=grownCap w (c+1) c tyI:=⟨_,rfl⟩
 obtain⟨ROW,hROW⟩:∃ROW:Array Value,ROW=(arr.toList.take (i*9)).toArray++Builtin.zeroCells z0.cells (c+1-i)++Builtin.zeroCells z0.cells (G-(c+1)):=⟨_,rfl⟩
 have hrz:∀ty,(Builtin.append_ #[tyL,3] ty #[.slice (some ⟨b,0,none⟩) i c,.int .i64 ((c:Int)+1-(i:Int))]).run Tryz.prog w =
   .ok (.slice (some ⟨w.heap.size,0,none⟩) (c+1) G) (w.drew.alloc (.cells ROW tyI)):=fun ty=>by
  have h:=Lib.run_append_grow_zeros w tyL 3 ty tyI i0 z0 .i64 .i64 D8l Tryz.underlying3 hi0 hz0 (some ⟨b,0,none⟩) i c (arr.toList.take (i*9)) hold (c+1-i) (by omega) (by omega) (by omega) (by omega) (by rw[hzb];omega) (by rw[hzb,hik];exact growslice_fits (by omega) (by omega));rw[hik]at h;rw[hkk,hG,hROW,hG];exact h
 have hGn:c+1<=G:=by rw[hG];exact grownCap_ge w _ _ _
 have hG63:G<=9223372036854775807:=by
  have:=grownCap_le_maxLen w (c+1) c tyI (by unfold maxLen;omega);rw[<-hG]at this;unfold maxLen at this;omega
 have hRl:ROW.size=G*9:=by
  rw[hROW,Array.size_append,Array.size_append,B2q,B2q,hzc,List.size_toArray,htl]
  have:i*9+(c+1-i)*9=(c+1)*9:=by rw[<-Nat.add_mul];congr 1
  rw[this,<-Nat.add_mul];congr 1;omega
 have hRo:∀k,k<i*9->ROW[k]?=arr[k]?:=fun k hk=>by
  rw[hROW,Array.append_assoc,Array.getElem?_append_left (by rw[List.size_toArray,htl];exact hk),List.getElem?_toArray,List.getElem?_take,if_pos hk,Array.getElem?_toList]
 obtain⟨W1,hW1⟩:∃W1,W1=w.drew.alloc (.cells ROW tyI):=⟨_,rfl⟩
 rw[<-hW1]at hrz;have hc9:(c+1)*9<=G*9:=Nat.mul_le_mul_right 9 hGn
 have hN:∀j,j<G*9->(W1.cell? ⟨w.heap.size,j,none⟩).isSome=true:=fun j hj=>by
  rw[hW1,World.cell?_alloc_at (w:=w.drew) ROW _ w.heap.size j rfl,Array.getElem?_eq_getElem (by omega)];rfl
 have hNf:∀j,W1.frozen? ⟨w.heap.size,j,none⟩=false:=fun j=>by rw[hW1];exact World.frozen?_alloc_at (w:=w.drew) ROW _ w.heap.size j rfl
 have hOb:∀j,W1.cell? ⟨b,j,none⟩=arr[j]?:=fun j=>by rw[hW1,World.cell?_alloc_past (w:=w.drew) _ b j hbw];exact B1x hb j
 have hOv:∀j,W1.cell? ⟨vb,j,none⟩=varr[j]?:=fun j=>by rw[hW1,World.cell?_alloc_past (w:=w.drew) _ vb j hvw];exact B1x hv j
 have m1:Nat.min 1 (c+1-i)=1:=Nat.min_eq_left (by omega);have m2:Nat.min (c-i) (c-i)=c-i:=Nat.min_self _
 have hcpA:∀(W:World),(∀x,W.cell? x=W1.cell? x)->(∀x,W.frozen? x=W1.frozen? x)->∀ty dc,(Builtin.copy_ #[tyL,tyL] ty #[.slice (some ⟨w.heap.size,i*9,none⟩) (c+1-i) dc,.slice (some ⟨vb,0,none⟩) 1 vc]).run Tryz.prog W = .ok (goInt 1) (W.setCells w.heap.size (i*9) vs):=fun W hWc hWf ty dc=>by
  have h:=B1w (P:=Tryz.prog) W tyL tyL ty tyI 9 w.heap.size (i*9) (c+1-i) dc ⟨vb,0,none⟩ 1 vc vs D8l C0q (by rw[hvl,m1])
   (fun j v hj=>by rw[Addr.add_lit,hWc,hOv,Nat.zero_add];exact hvg j v hj)
   (fun j hj=>by rw[hWc];exact hN (i*9+j) (by omega)) (fun j hj=>by rw[hWf];exact hNf _) h1v
  rwa[m1]at h
 have hGi:¬(G=i):=by omega
 have hGim:¬(G=i+1):=by omega
 have hci:¬(c=i):=by omega
 have hbN:b≠w.heap.size:=by omega
 have hcpB:∀(W:World),(∀x,W.cell? x=(W1.setCells w.heap.size (i*9) vs).cell? x)->(∀x,W.frozen? x=(W1.setCells w.heap.size (i*9) vs).frozen? x)->∀ty dc sc,(Builtin.copy_ #[tyL,tyL] ty #[.slice (some ⟨w.heap.size,(i+1)*9,none⟩) (c-i) dc,.slice (some ⟨b,i*9,none⟩) (c-i) sc]).run Tryz.prog W = .ok (goInt ((c-i:Nat):Int)) (W.setCells w.heap.size ((i+1)*9) cs):=fun W hWc hWf ty dc sc=>by
  have h:=B1w (P:=Tryz.prog) W tyL tyL ty tyI 9 w.heap.size ((i+1)*9) (c-i) dc ⟨b,i*9,none⟩ (c-i) sc cs D8l C0q (by rw[hcl,m2])
   (fun j v hj=>by
    rw[Addr.add_lit,hWc,World.cell?_setCells_out _ _ _ _ _ (fun h _=>absurd h hbN),hOb]
    exact hcg j v hj)
   (fun j hj=>by rw[hWc];exact B1c w.heap.size vs (i*9) W1 (fun t ht=>hN (i*9+t) (by omega)) ((i+1)*9+j) (hN ((i+1)*9+j) (by omega)))
   (fun j hj=>by rw[hWf,World.frozen?_setCells];exact hNf _) h1s
  rwa[m2]at h
 subst hW1;have hE1:∀x,((w.alloc (.cells ROW tyI)).drew).cell? x=(w.drew.alloc (.cells ROW tyI)).cell? x:=fun x=>rfl;have hE2:∀x,((w.alloc (.cells ROW tyI)).drew).frozen? x=(w.drew.alloc (.cells ROW tyI)).frozen? x:=fun x=>rfl;have hF1:∀x,(((w.alloc (.cells ROW tyI)).drew.setCells w.heap.size (i*9) vs).drew).cell? x=((w.drew.alloc (.cells ROW tyI)).setCells w.heap.size (i*9) vs).cell? x:=fun x=>rfl;have hF2:∀x,(((w.alloc (.cells ROW tyI)).drew.setCells w.heap.size (i*9) vs).drew).frozen? x=((w.drew.alloc (.cells ROW tyI)).setCells w.heap.size (i*9) vs).frozen? x:=fun x=>rfl
 have hb1:(0:Int)<=(i:Int)+1:=by omega
 have hin:i<=c:=by omega
 have htn:((i:Int)+1).toNat=i+1:=by omega
 have hb3:(i:Int)<=(c:Int):=by omega
 have hb4:(i:Int)+1<=(c:Int)+1:=by omega
 clear hkk hik hold hROW hG
 refine Calls.mono (R:=fun e w'=>e = .returned (.slice (some ⟨w.heap.size,0,none⟩) (c+1) G)/\w'=(((w.alloc (.cells ROW tyI)).drew.setCells w.heap.size (i*9) vs).drew).setCells w.heap.size ((i+1)*9) cs) ?_ fun e w' h=>⟨G,ROW,hGn,Nat.le_of_eq hRl.symm,hRo,h.1,h.2⟩
 clear hcs hvs
 go_enter Tryz.func73,Tryz.ntmps73
 go_wp2_with (first
  | (at_builtin;refine Lib.wpList_append_run _ rfl _ _ _ _ rfl _ _ rfl rfl _ _ (hrz _) ?_)
  | (at_builtin;refine A6a _ rfl _ _ tyL tyL rfl _ _ rfl rfl (hcpA _ hE1 hE2 _ _) ?_)
  | (at_builtin;refine A6a _ rfl _ _ tyL tyL rfl _ _ rfl rfl (hcpB _ (fun _=>rfl) (fun _=>rfl) _ _ _) ?_))
 go_region_law_o (refine B2p rfl _ _ tyL tyL rfl (.slice (some ⟨w.heap.size,(i+1)*9,none⟩) (c-i) (G-(i+1))) (.slice (some ⟨b,i*9,none⟩) (c-i) (c-i)) (by simp[Act.eval,Act.put]) (by simp[Act.eval,Act.put]) (hcpB _ hF1 hF2 3 (G-(i+1)) (c-i)) ?_)
 go_wp2
 go_ret
 first | exact⟨rfl,rfl⟩ | exact⟨rfl,by rw[hcs,hvs]⟩
structure Oth (w w':World) (b:Nat):Prop where
 os:w'.os=w.os
 tape:w'.tape=w.tape
 output:w'.output=w.output
 size:w.heap.size<=w'.heap.size
 block:∀k,k<w.heap.size->k≠b->w'.heap[k]?=w.heap[k]?
theorem Oth.trans {w w1 w2:World} {b:Nat} (h:Oth w w1 b) (k:Oth w1 w2 b):Oth w w2 b:=
 ⟨k.os.trans h.os,k.tape.trans h.tape,k.output.trans h.output,Nat.le_trans h.size k.size,fun j hj hb=>(k.block j (Nat.lt_of_lt_of_le hj h.size) hb).trans (h.block j hj hb)⟩
theorem Oth.drew (w:World) (b:Nat):Oth w w.drew b:=⟨rfl,rfl,rfl,Nat.le_refl _,fun _ _ _=>rfl⟩
theorem A5x (b:Nat) (ty:TypeId):∀(vs:List Value) (o:Nat) (w:World) (arr:Array Value),w.heap[b]?=some (.cells arr ty (0,0))->o+vs.length<=arr.size ->
  ∃arr':Array Value,(w.setCells b o vs).heap[b]?=some (.cells arr' ty (0,0))/\arr'.size=arr.size/\(∀k,k<o\/o+vs.length<=k->arr'[k]?=arr[k]?)/\(∀j v,vs[j]?=some v->arr'[o+j]?=some v)/\Oth w (w.setCells b o vs) b/\(w.setCells b o vs).heap.size=w.heap.size
 | [],o,w,arr,h,_=>⟨arr,h,rfl,fun _ _=>rfl,fun j v hj=>by simp at hj,⟨rfl,rfl,rfl,Nat.le_refl _,fun _ _ _=>rfl⟩,rfl⟩
 | v::r,o,w,arr,h,hl=>by
  simp only[List.length_cons]at hl;rw[World.setCells,setCell_eq_setRow w b o arr ty (0,0) v h];have h1:=setRow_heap w b arr (arr.setIfInBounds o v) ty (0,0) h;obtain⟨arr',h2,h3,h4,h5,h6,h7⟩:=A5x b ty r (o+1) (w.setRow b (arr.setIfInBounds o v)) (arr.setIfInBounds o v) h1 (by simp;omega);refine⟨arr',h2,h3.trans (by simp),fun k hk=>?_,fun j u hj=>?_,⟨h6.os,h6.tape,h6.output,?_,fun k hk hb=>?_⟩,h7.trans (setRow_size _ _ _)⟩
  ·simp only[List.length_cons]at hk;rw[h4 k (by omega),Array.getElem?_setIfInBounds,if_neg (by omega)]
  ·cases j with
   | zero=>
    simp only[List.getElem?_cons_zero,Option.some.injEq]at hj;subst hj;rw[Nat.add_zero,h4 o (by omega),Array.getElem?_setIfInBounds,if_pos rfl,if_pos (by omega)]
   | succ j=>
    rw[show o+(j+1)=o+1+j by omega];exact h5 j u (by simpa using hj)
  ·have:=h6.size;rw[setRow_size]at this;exact this
  ·rw[h6.block k (by rw[setRow_size];exact hk) hb,setRow_other w b k _ hb]
theorem E4c (b n c i vb vc:Nat) (arr varr:Array Value) (w:World) (hi:i<n) (hnc:n<=c) (hn:n<=100000) (hvb:vb≠b)
  (hb:w.heap[b]?=some (.cells arr tyI (0,0))) (hv:w.heap[vb]?=some (.cells varr tyI (0,0))) (hfit:c*9<=arr.size) (hv9:9<=varr.size)
  (h1c:∀v∈(arr.toList.take (n*9)),v.oneCell'=true) (h1v:∀v∈varr.toList.take 9,v.oneCell'=true) :
  Calls Tryz.prog 73 #[.slice (some ⟨b,0,none⟩) n c,.int .i64 i,.slice (some ⟨vb,0,none⟩) 1 vc] w fun e w'=>
   ∃(g c':Nat) (cur:Array Value),e = .returned (.slice (some ⟨g,0,none⟩) (n+1) c')/\(g=b\/g=w.heap.size)/\w'.heap[g]?=some (.cells cur tyI (0,0))/\n+1<=c'/\c'*9<=cur.size/\(g=b->cur.size=arr.size) /\
    (∀k,k<i*9->cur[k]?=arr[k]?)/\(∀k,k<9->cur[i*9+k]?=varr[k]?)/\(∀k,k<(n-i)*9->cur[(i+1)*9+k]?=arr[i*9+k]?)/\Oth w w' b/\(g≠b->w'.heap[b]?=w.heap[b]?):=by
 have hal:n*9<=arr.toList.length:=by rw[Array.length_toList];omega
 have hcl:((arr.toList.take (n*9)).drop (i*9)).length=(n-i)*9:=by rw[List.length_drop,List.length_take,Nat.min_eq_left hal,Nat.sub_mul]
 have hvl:(varr.toList.take 9).length=9:=by rw[List.length_take,Array.length_toList];omega
 have hcg:∀k,k<(n-i)*9->((arr.toList.take (n*9)).drop (i*9))[k]?=arr[i*9+k]?:=fun k hk=>by
  have:(n-i)*9=n*9-i*9:=Nat.sub_mul ..;rw[List.getElem?_drop,List.getElem?_take,if_pos (by omega),Array.getElem?_toList]
 have hvg:∀k,k<9->(varr.toList.take 9)[k]?=varr[k]?:=fun k hk=>by rw[List.getElem?_take,if_pos hk,Array.getElem?_toList]
 have hmul:(n-i)*9+(i+1)*9=(n+1)*9:=by rw[<-Nat.add_mul];congr 1;omega
 have hi9:i*9+9=(i+1)*9:=(Nat.succ_mul i 9).symm;have hbw:b<w.heap.size:=(Array.getElem?_eq_some_iff.1 hb).1
 obtain⟨cs,hcs⟩:∃cs,cs=(arr.toList.take (n*9)).drop (i*9):=⟨_,rfl⟩
 obtain⟨vs,hvs⟩:∃vs,vs=varr.toList.take 9:=⟨_,rfl⟩
 rw[<-hcs]at hcl hcg;rw[<-hvs]at hvl hvg
 have get:∀{l:List Value} {k:Nat} {a:Option Value},k<l.length->l[k]?=a->∃v,a=some v:=fun {l k a} hk h=>⟨l[k],h.symm.trans (List.getElem?_eq_getElem hk)⟩
 by_cases hroom:n+1<=c
 ·have hn1:(n+1)*9<=c*9:=Nat.mul_le_mul_right 9 hroom;have H:=E4a b n c i vb vc arr varr w hi hroom hn hvb hb hv hfit hv9 h1c h1v;rw[<-hcs,<-hvs]at H;refine H.mono ?_;rintro e w' ⟨rfl,rfl⟩;have hb':w.drew.heap[b]?=some (.cells arr tyI (0,0)):=hb;obtain⟨a1,h2,h3,h4,h5,h6,h7⟩:=A5x b tyI cs ((i+1)*9) w.drew arr hb' (by omega);obtain⟨a2,k2,k3,k4,k5,k6,k7⟩:=A5x b tyI vs (i*9) _ a1 h2 (by omega);refine⟨b,c,a2,rfl,.inl rfl,k2,hroom,by omega,fun _=>by omega,fun k hk=>?_,fun k hk=>?_,fun k hk=>?_,((Oth.drew w b).trans h6).trans k6,fun e=>absurd rfl e⟩
  ·rw[k4 k (by omega),h4 k (by omega)]
  ·obtain⟨v,hv⟩:=get (l:=vs) (by omega) (hvg k hk);rw[k5 k v (by rw[hvg k hk,hv]),hv]
  ·obtain⟨v,hv⟩:=get (l:=cs) (by omega) (hcg k hk);rw[k4 _ (by omega),h5 k v (by rw[hcg k hk,hv]),hv]
 ·have H:=E8c b n c i vb vc arr varr w hi (by omega) hn hvb hb hv hfit hv9 h1c h1v;rw[<-hcs,<-hvs]at H;refine H.mono ?_;rintro e w' ⟨g,row,hg1,hg2,hrow,rfl,rfl⟩;have hn1:(n+1)*9<=g*9:=Nat.mul_le_mul_right 9 hg1
  have h0:((w.alloc (.cells row tyI)).drew).heap[w.heap.size]?=some (.cells row tyI (0,0)):=by
   show(w.heap.push _)[w.heap.size]?=_;simp
  obtain⟨a1,h2,h3,h4,h5,h6,h7⟩:=A5x w.heap.size tyI vs (i*9) (w.alloc (.cells row tyI)).drew row h0 (by omega);obtain⟨a2,k2,k3,k4,k5,k6,k7⟩:=A5x w.heap.size tyI cs ((i+1)*9) (((w.alloc (.cells row tyI)).drew.setCells w.heap.size (i*9) vs).drew) a1 h2 (by omega)
  have hsz:((w.alloc (.cells row tyI)).drew).heap.size=w.heap.size+1:=by
   show(w.heap.push _).size=_;simp
  have old:∀k,k<w.heap.size->((((w.alloc (.cells row tyI)).drew.setCells w.heap.size (i*9) vs).drew).setCells w.heap.size ((i+1)*9) cs).heap[k]?=w.heap[k]?:=fun k hk=>by
   have e7:(((w.alloc (.cells row tyI)).drew.setCells w.heap.size (i*9) vs).drew).heap.size=w.heap.size+1:=h7.trans hsz;rw[k6.block k (by omega) (by omega)];show((w.alloc (.cells row tyI)).drew.setCells w.heap.size (i*9) vs).heap[k]?=_;rw[h6.block k (by omega) (by omega)];show(w.heap.push _)[k]?=_;rw[Array.getElem?_push,if_neg (by omega)]
  refine⟨w.heap.size,g,a2,rfl,.inr rfl,k2,hg1,by omega,fun e=>by omega,fun k hk=>?_,fun k hk=>?_,fun k hk=>?_,⟨?_,?_,?_,?_,fun k hk hkb=>old k hk⟩,fun _=>old b hbw⟩
  ·rw[k4 k (by omega),h4 k (by omega),hrow k hk]
  ·obtain⟨v,hv⟩:=get (l:=vs) (by omega) (hvg k hk);rw[k4 _ (by omega),h5 k v (by rw[hvg k hk,hv]),hv]
  ·obtain⟨v,hv⟩:=get (l:=cs) (by omega) (hcg k hk);rw[k5 k v (by rw[hcg k hk,hv]),hv]
  ·rw[k6.os];exact h6.os
  ·rw[k6.tape];exact h6.tape
  ·rw[k6.output];exact h6.output
  ·have:=h6.size;have k:=k6.size;have:(((w.alloc (.cells row tyI)).drew.setCells w.heap.size (i*9) vs).drew).heap.size=((w.alloc (.cells row tyI)).drew.setCells w.heap.size (i*9) vs).heap.size:=rfl;omega
def insL (l:List IC) (i:Nat) (x:IC):List IC:=l.take i++x::l.drop i
theorem D5h {l:List IC} {i:Nat} (x:IC) (hi:i<=l.length):(insL l i x).length=l.length+1:=by
 unfold insL;rw[List.length_append,List.length_cons,List.length_take,List.length_drop];omega
theorem E8d (l:List IC) (i:Nat) (x:IC) (hi:i<l.length) (j:Nat):((insL l i x).flatMap eIC.enc)[j]? =
  if j<i*9 then(l.flatMap eIC.enc)[j]? else if j<(i+1)*9 then x.cs[j-i*9]? else(l.flatMap eIC.enc)[j-9]?:=by
 have hz:eIC.z=9:=rfl;have hx:(eIC.enc x).length=9:=x.ok.len;have hl:=A1w eIC l;rw[hz]at hl;have hi9:(i+1)*9=i*9+9:=Nat.succ_mul i 9;have hin:(i+1)*9<=l.length*9:=Nat.mul_le_mul_right 9 hi;have ht:=B4o eIC l i;have hd:=B0k eIC l i;rw[hz]at ht hd;unfold insL;rw[List.flatMap_append,List.flatMap_cons,<-ht,<-hd]
 have htl:((l.flatMap eIC.enc).take (i*9)).length=i*9:=by rw[List.length_take];omega
 by_cases h1:j<i*9
 ·rw[if_pos h1,List.getElem?_append_left (by omega),List.getElem?_take,if_pos h1]
 ·rw[if_neg h1,List.getElem?_append_right (by omega),htl];by_cases h2:j<(i+1)*9
  ·rw[if_pos h2,List.getElem?_append_left (by omega)];rfl
  ·rw[if_neg h2,List.getElem?_append_right (by omega),List.getElem?_drop];congr 1;omega
theorem A7p {H:Heap} {b nx k:Nat} {r0 r:Row} (h:Abs.look ((nx,r0)::rem H b) k=some r):(k=nx/\r=r0)\/(k≠nx/\k≠b/\Abs.look H k=some r):=by
 rw[look_cons]at h;split at h
 ·rename_i e;injection h with h;exact .inl ⟨e.symm,h.symm⟩
 ·rename_i hn;rw[A2f]at h;split at h
  ·cases h
  ·rename_i hb;exact .inr ⟨fun e=>hn e.symm,hb,h⟩
theorem E8e {H:Heap} {nx b k:Nat} {l:List IC} {x:IC} {i:Nat} (hb:Abs.look H b=some (A1p eIC tyI l)) (hk:Abs.look H k=some (.cells tyI (x.cs.map .t))) (hbk:b≠k) (hi:i<l.length) (hlen:l.length<=100000) :
  A1n Tryz.prog (G q) 73 [.row b 0 l.length 9,.t (iv (i:Int)),.row k 0 1 9] H nx (.row nx 0 (l.length+1) 9) ((nx,A1p eIC tyI (insL l i x))::rem H b) (nx+1):=by
 refine⟨⟨_,(Tryz.f73.body).get!,Tryz.func73,by kernel_rfl,by kernel_rfl⟩,fun L w us hok hnx hargs=>?_⟩
 obtain⟨c,vc,hus,hnc,hcap,hvcap⟩:∃c vc,us = #[.slice (some ⟨L.μ b,0,none⟩) l.length c,.int .i64 (i:Int),.slice (some ⟨L.μ k,0,none⟩) 1 vc]/\l.length<=c/\(∀arr ty fz,w.heap[L.μ b]?=some (.cells arr ty fz)->0+c*9<=arr.size)/\1<=vc:=by
  simp only[A0m,RepV,RepT]at hargs;obtain⟨x1,xs1,e1,⟨_,_,c,rfl,h1,h2⟩,x2,xs2,rfl,rfl,x3,xs3,rfl,⟨_,_,vc,rfl,h3,h4⟩,rfl⟩:=hargs;exact⟨c,vc,Array.ext' e1,h1,h2,h3⟩
 subst hus;obtain⟨arr,ha,hsz,hc⟩:=hok.rep b _ hb;obtain⟨varr,hva,hvsz,hvc⟩:=hok.rep k _ hk;have hfl:=A1w eIC l;rw[show eIC.z=9 from rfl]at hfl;rw[List.length_map,hfl]at hsz;rw[List.length_map,show x.cs.length=9 from x.ok.len]at hvsz;have hfit:=hcap arr tyI (0,0) ha;have hne:L.μ k≠L.μ b:=fun e=>hbk (hok.inj _ _ _ _ hk hb e).symm
 have hcell:∀j,j<l.length*9->∃t y,(l.flatMap eIC.enc)[j]?=some t/\arr[j]?=some y/\y.oneCell'=true/\RepV Tryz.prog L w (.t t) y:=fun j hj=>by
  have ht:(l.flatMap eIC.enc)[j]?=some ((l.flatMap eIC.enc)[j]'(by omega)):=List.getElem?_eq_getElem (by omega);obtain⟨y,h1,h2,h3⟩:=hc j (.t ((l.flatMap eIC.enc)[j]'(by omega))) (by rw[List.getElem?_map,ht];rfl);exact⟨_,y,ht,h1,h2,h3⟩
 have hvcell:∀j,j<9->∃t y,x.cs[j]?=some t/\varr[j]?=some y/\y.oneCell'=true/\RepV Tryz.prog L w (.t t) y:=fun j hj=>by
  have hxl:x.cs.length=9:=x.ok.len;have ht:x.cs[j]?=some (x.cs[j]'(by omega)):=List.getElem?_eq_getElem (by omega);obtain⟨y,h1,h2,h3⟩:=hvc j (.t (x.cs[j]'(by omega))) (by rw[List.getElem?_map,ht];rfl);exact⟨_,y,ht,h1,h2,h3⟩
 have h1c:∀v∈arr.toList.take (l.length*9),v.oneCell'=true:=fun v hv=>by
  obtain⟨j,hj⟩:=List.getElem?_of_mem hv;rw[List.getElem?_take]at hj;split at hj
  ·rename_i hjl;obtain⟨_,y,_,h2,h3,_⟩:=hcell j hjl;rw[Array.getElem?_toList,h2]at hj;cases hj;exact h3
  ·cases hj
 have h1v:∀v∈varr.toList.take 9,v.oneCell'=true:=fun v hv=>by
  obtain⟨j,hj⟩:=List.getElem?_of_mem hv;rw[List.getElem?_take]at hj;split at hj
  ·rename_i hjl;obtain⟨_,y,_,h2,h3,_⟩:=hvcell j hjl;rw[Array.getElem?_toList,h2]at hj;cases hj;exact h3
  ·cases hj
 refine(E4c (L.μ b) l.length c i (L.μ k) vc arr varr w hi hnc hlen hne ha hva (by omega) (by omega) h1c h1v).mono ?_;rintro e w' ⟨g,c',cur,rfl,hg,hcur,hnc',hcs',hsame,hA,hB,hC,hO,hbk'⟩;have hmb:L.μ b<w.heap.size:=(Array.getElem?_eq_some_iff.1 ha).1;have hgn:g<w'.heap.size:=(Array.getElem?_eq_some_iff.1 hcur).1;have hbn:b<nx:=hnx▸hok.nx b _ hb
 have hother:∀j r,Abs.look H j=some r->j≠b->w'.heap[L.μ j]?=w.heap[L.μ j]?:=fun j r hj hjb=>
  hO.block _ (hok.rep j r hj).lt (fun e=>hjb (hok.inj _ _ _ _ hj hb e))
 have hshape:Abs.A1z w w':=fun j hj a ty fz he=>by
  by_cases hjb:j=L.μ b
  ·subst hjb;by_cases hgb:g=L.μ b
   ·rw[<-hgb,hcur]at he;injection he with he;injection he with h1 h2 h3;subst h1;subst h2;exact⟨arr,(0,0),ha,(hsame hgb).symm⟩
   ·rw[hbk' hgb]at he;exact⟨a,fz,he,rfl⟩
  ·rw[hO.block j hj hjb]at he;exact⟨a,fz,he,rfl⟩
 let L':Abs.Loc:=⟨L.I,fun j=>if j=nx then g else L.μ j,nx+1⟩
 have hμ:∀j,j≠nx->L'.μ j=L.μ j:=fun j hj=>if_neg hj;have hμn:L'.μ nx=g:=if_pos rfl
 have hm:Mono L w L' w':=⟨fun j hj=>⟨hj,hO.block j (hok.lt j hj) (fun e=>hok.apart b _ hb (e▸hj))⟩,by show L.nx<=nx+1;omega,fun j hj=>hμ j (by omega),hO.size,hshape⟩
 have hIg:¬L.I g:=by
  rcases hg with e | e
  ·rw[e];exact hok.apart b _ hb
  ·rw[e];intro hh;have:=hok.lt _ hh;omega
 have key:∀j r,Abs.look H j=some r->j≠b->L.μ j≠g:=fun j r hj hjb=>by
  rcases hg with e | e
  ·rw[e];exact fun e2=>hjb (hok.inj _ _ _ _ hj hb e2)
  ·rw[e];have:=(hok.rep j r hj).lt;omega
 have hin:(i+1)*9<=l.length*9:=Nat.mul_le_mul_right 9 hi;have hi9:(i+1)*9=i*9+9:=Nat.succ_mul i 9;have hmul:(l.length-i)*9=l.length*9-i*9:=Nat.sub_mul ..;refine⟨_,L',rfl,?_,⟨fun j hj=>Nat.lt_of_lt_of_le (hok.lt j hj) hO.size,fun j r hj=>?_,fun j r hj=>?_,fun j j' r r' hj hj' e=>?_,fun j r hj=>?_,A2o hok hm.keeps⟩,rfl,hm,⟨hO.size,fun j hj hjm=>?_,fun _ h=>h,fun _ h=>.inl h,fun j hj=>?_,hshape,⟨hO.os,hO.tape,hO.output⟩⟩⟩
 ·simp only[RepV,hμn];refine⟨by show nx<nx+1;omega,hgn,c',rfl,hnc',fun a ty fz he=>?_⟩;rw[hcur]at he;injection he with he;injection he with h1 h2 h3;subst h1;omega
 ·rcases A7p hj with⟨rfl,rfl⟩ | ⟨h1,h2,h3⟩
  ·rw[hμn];have hml:=A1w eIC (insL l i x);rw[show eIC.z=9 from rfl,D5h x (Nat.le_of_lt hi)]at hml;refine⟨cur,hcur,by rw[List.length_map,hml];omega,fun j c0 hj0=>?_⟩;rw[List.getElem?_map]at hj0;obtain⟨t,ht,rfl⟩:=A0i hj0
   have hjl:j<(l.length+1)*9:=by have:=(List.getElem?_eq_some_iff.1 ht).1;omega
   rw[E8d l i x hi]at ht;split at ht
   ·rename_i h1;obtain⟨t',y,h2,h3,h4,h5⟩:=hcell j (by omega);rw[h2]at ht;cases ht;exact⟨y,by rw[hA j h1,h3],h4,h5.keep hm⟩
   ·split at ht
    ·rename_i h1 h6;obtain⟨t',y,h2,h3,h4,h5⟩:=hvcell (j-i*9) (by omega);rw[h2]at ht;cases ht;have:=hB (j-i*9) (by omega);rw[show i*9+(j-i*9)=j by omega]at this;exact⟨y,by rw[this,h3],h4,h5.keep hm⟩
    ·rename_i h1 h6;obtain⟨t',y,h2,h3,h4,h5⟩:=hcell (j-9) (by omega);rw[h2]at ht;cases ht;have:=hC (j-(i+1)*9) (by omega);rw[show(i+1)*9+(j-(i+1)*9)=j by omega,show i*9+(j-(i+1)*9)=j-9 by omega]at this;exact⟨y,by rw[this,h3],h4,h5.keep hm⟩
  ·rw[hμ _ h1];exact(hok.rep j r h3).keep hm (hother j r h3 h2)
 ·rcases A7p hj with⟨rfl,rfl⟩ | ⟨h1,h2,h3⟩
  ·rw[hμn];exact hIg
  ·rw[hμ _ h1];exact hok.apart j _ h3
 ·rcases A7p hj with⟨rfl,rfl⟩ | ⟨h1,h2,h3⟩
  ·rcases A7p hj' with⟨rfl,rfl⟩ | ⟨k1,k2,k3⟩
   ·rfl
   ·rw[hμn,hμ _ k1]at e;exact absurd e.symm (key j' r' k3 k2)
  ·rcases A7p hj' with⟨rfl,rfl⟩ | ⟨k1,k2,k3⟩
   ·rw[hμn,hμ _ h1]at e;exact absurd e (key j r h3 h2)
   ·rw[hμ _ h1,hμ _ k1]at e;exact hok.inj _ _ _ _ h3 k3 e
 ·show j<nx+1;rcases A7p hj with⟨rfl,rfl⟩ | ⟨h1,h2,h3⟩
  ·omega
  ·have:=hok.nx j _ h3;omega
 ·exact hO.block j hj (fun e=>hjm ⟨b,_,hb,e.symm⟩)
 ·obtain⟨k0,r,h0,e⟩:=hj;rcases A7p h0 with⟨rfl,rfl⟩ | ⟨h1,h2,h3⟩
  ·rw[hμn]at e;rcases hg with e2 | e2
   ·exact .inr ⟨b,_,hb,by rw[<-e,e2]⟩
   ·exact .inl (by omega)
  ·rw[hμ _ h1]at e;exact .inr ⟨_,_,h3,e⟩
open Go Go.Abs
def getC (id:ByteArray) (l:List IC):Option IC:=l.find? fun c=>decide (c.x.id=id)
def remC (id:ByteArray) (l:List IC):List IC:=l.filter fun c=>!decide (c.x.id=id)
def putC (c:IC):List IC->List IC
 | []=>[c]
 | y::r=>if cmpS y.x.id c.x.id<0 then y::putC c r else if cmpS y.x.id c.x.id=0 then c::r else c::y::r
theorem C0o.cons {y:IC} {r:List IC} (h:C0o (y::r)):C0o r/\∀x∈r,cmpS y.x.id x.x.id<0:=by
 obtain⟨h1,h2⟩:=C8i.tail (y:=y.x) (r:=r.map IC.x) h;exact⟨h1,fun x hx=>h2 x.x (List.mem_map_of_mem hx)⟩
theorem D5i (id:ByteArray) (y:IC) (r:List IC):cntL (cmC id) (y::r)=(if cmpS y.x.id id<0 then 1 else 0)+cntL (cmC id) r:=by
 unfold cntL;rw[List.countP_cons];by_cases h:cmpS y.x.id id<0
 ·rw[if_pos (decide_eq_true h),if_pos h];omega
 ·rw[if_neg (by simpa using h),if_neg h];omega
theorem E8f {id:ByteArray} {r:List IC} (h:∀x∈r,¬cmpS x.x.id id<0):cntL (cmC id) r=0:=by
 unfold cntL;rw[List.countP_eq_zero];intro x hx e;exact h x hx (of_decide_eq_true e)
theorem E8g {id:ByteArray} {y:IC} {r:List IC} (hs:C0o (y::r)) (h:¬cmpS y.x.id id<0):∀x∈r,0<cmpS x.x.id id:=by
 intro x hx;have h1:=hs.cons.2 x hx;have h2:=A9h.anti id x.x.id;have h3:=A9h.anti id y.x.id;by_cases h0:cmpS y.x.id id=0
 ·have:=A9h.tieR x.x.id h0;have:=A9h.anti y.x.id x.x.id;omega
 ·have:=A9h.trans id y.x.id x.x.id (by omega) h1;omega
theorem C5u:∀{l:List IC} (id:ByteArray),C0o l->(hitL (cmC id) l=(getC id l).isSome)/\((getC id l).isSome=true->l[cntL (cmC id) l]?=getC id l)/\(∀c,(if(getC id l).isSome=true/\c.x.id=id then l.set (cntL (cmC id) l) c else l)=if(getC id l).isSome=true/\c.x.id=id then putC c l else l) /\
  (∀c:IC,c.x.id=id->(getC id l).isSome=false->putC c l=l.take (cntL (cmC id) l)++c::l.drop (cntL (cmC id) l))/\((getC id l).isSome=true->remC id l=l.take (cntL (cmC id) l)++l.drop (cntL (cmC id) l+1))
 | [],id,_=>by simp[hitL,getC,cntL,putC]
 | y::r,id,hs=>by
  obtain⟨h1,h2⟩:=hs.cons;obtain⟨i1,i2,i3,i4,i5⟩:=C5u (l:=r) id h1;have hne:∀z:ByteArray,cmpS z id=0 ↔ z=id:=fun z=>B0l;by_cases hlt:cmpS y.x.id id<0
  ·have hy:y.x.id≠id:=F4d hlt
   have hc:cntL (cmC id) (y::r)=cntL (cmC id) r+1:=by rw[D5i,if_pos hlt];omega
   have hg:getC id (y::r)=getC id r:=by unfold getC;rw[List.find?_cons,decide_eq_false hy]
   have hh:hitL (cmC id) (y::r)=hitL (cmC id) r:=by unfold hitL;rw[hc,List.getElem?_cons_succ]
   rw[hg,hc,hh];refine⟨i1,fun h=>by rw[List.getElem?_cons_succ];exact i2 h,fun c=>?_,fun c e h=>?_,fun h=>?_⟩
   ·by_cases hcc:(getC id r).isSome=true/\c.x.id=id
    ·have:=i3 c;rw[if_pos hcc,if_pos hcc]at this;rw[if_pos hcc,if_pos hcc,List.set_cons_succ,this,putC,hcc.2,if_pos hlt]
    ·rw[if_neg hcc,if_neg hcc]
   ·rw[putC,e,if_pos hlt,i4 c e h];rfl
   ·have:remC id (y::r)=y::remC id r:=by unfold remC;rw[List.filter_cons];simp[hy]
    rw[this,i5 h];rfl
  ·have hb:=E8g hs hlt
   have hc:cntL (cmC id) (y::r)=0:=by rw[D5i,if_neg hlt,E8f fun x hx=>by have:=hb x hx;omega]
   have hnr:∀x∈r,x.x.id≠id:=fun x hx e=>by have:=hb x hx;have:=(hne _).2 e;omega
   have hgr:getC id r=none:=List.find?_eq_none.2 fun x hx=>by simpa using hnr x hx
   have hrr:remC id r=r:=List.filter_eq_self.2 fun x hx=>by simpa using hnr x hx
   rw[hc];by_cases he:y.x.id=id
   ·have hz:=(hne _).2 he
    have hg:getC id (y::r)=some y:=by unfold getC;rw[List.find?_cons,decide_eq_true he]
    rw[hg];refine⟨?_,fun _=>rfl,fun c=>?_,fun c _ h=>(by cases h),fun _=>?_⟩
    ·unfold hitL;rw[hc];simp[cmC,hz]
    ·by_cases hcc:c.x.id=id
     ·rw[if_pos ⟨rfl,hcc⟩,if_pos ⟨rfl,hcc⟩,putC,hcc,if_neg hlt,if_pos hz];rfl
     ·rw[if_neg fun h=>hcc h.2,if_neg fun h=>hcc h.2]
    ·have:remC id (y::r)=remC id r:=by unfold remC;rw[List.filter_cons];simp[he]
     rw[this,hrr];rfl
   ·have hz:¬cmpS y.x.id id=0:=fun e=>he ((hne _).1 e)
    have hg:getC id (y::r)=none:=by
     have:getC id (y::r)=getC id r:=by unfold getC;rw[List.find?_cons,decide_eq_false he]
     rw[this,hgr]
    rw[hg];refine⟨?_,fun h=>(by cases h),fun c=>(by rw[if_neg fun h=>(by cases h.1),if_neg fun h=>(by cases h.1)]),fun c e _=>?_,fun h=>(by cases h)⟩
    ·unfold hitL;rw[hc];simp[cmC,hz]
    ·rw[putC,e,if_neg hlt,if_neg hz];rfl
theorem D8m {H:Heap} {nx n:Nat} (hn:n<=1000000) :
  A1n Tryz.prog (G q) 128 [.t nilS,.t (iv (n:Int))] H nx (if n=0 then .t nilS else .row nx 0 0 9) (if n=0 then H else(nx,.cells 28 [])::H) (if n=0 then nx else nx+1):=by
 obtain⟨i0,hi0⟩:∃i0,Tryz.prog.info? 28=some i0:=⟨(Tryz.prog.info? 28).get!,by kernel_rfl⟩
 obtain⟨zv,hz0⟩:∃zv,i0.zero=some zv:=by
  have:((Tryz.prog.info? 28).bind (·.zero)).isSome=true:=by kernel_rfl
  rw[hi0]at this;exact Option.isSome_iff_exists.1 this
 have hsz:i0.size=9:=by
  have:(Tryz.prog.info? 28).map (·.size)=some 9:=by kernel_rfl
  rw[hi0]at this;injection this
 have hby:i0.bytes=136:=by
  have:(Tryz.prog.info? 28).map (·.bytes)=some 136:=by kernel_rfl
  rw[hi0]at this;injection this
 have hzs:zv.cells.size=i0.size:=by
  have:((Tryz.prog.info? 28).bind (·.zero)).map (·.cells.size)=some 9:=by kernel_rfl
  rw[hi0]at this;simp only[Option.bind_some,hz0,Option.map_some,Option.some.injEq]at this;omega
 exact E7u (ty:=28) (z:=9) i0 zv ⟨_,(Tryz.f128.body).get!,Tryz.func128,by kernel_rfl,by kernel_rfl⟩ hzs hsz (by omega)
  (fun w=>Any8.slices_Grow_room Tryz.growI none 0 0 0 w (by omega) (by omega) (by omega) (by omega))
  (fun hp w=>Any8.slices_Grow_grow Tryz.growI i0 zv hi0 hz0 (by omega) none 0 0 n [] w (by omega) (by omega) (by rw[hby];omega) (by omega) (by simp) (fun _=>rfl) (fun a h=>by cases h))
structure RI where
 t:T
 m:List IC
 ok:IsS eIC t m
theorem RI.ext {a b:RI} (h:a.t=b.t):a=b:=by
 obtain⟨t,m,ok⟩:=a;obtain⟨t',m',ok'⟩:=b;simp only at h;subst h;obtain rfl:=(tSl eIC).uniq t m m' ok ok';rfl
def eRI:Enc RI:=⟨1,fun r=>[r.t],fun _=>rfl,by omega,fun a b h=>RI.ext (by injection h)⟩
def catI (l:List RI) (i:Nat):List IC:=(l.take i).flatMap RI.m
theorem C0r {l:List RI} {i:Nat} {x:RI} (h:l[i]?=some x):catI l (i+1)=catI l i++x.m:=by
 unfold catI;rw[List.take_add_one,h,List.flatMap_append];simp
theorem C9k {l:List RI} {i j:Nat} (h:i<=j):(catI l i).length<=(catI l j).length:=by
 obtain⟨k,rfl⟩:∃k,j=i+k:=⟨j-i,by omega⟩
 unfold catI;rw[List.take_add,List.flatMap_append,List.length_append];omega
theorem C5v (l:List RI):catI l l.length=l.flatMap RI.m:=by unfold catI;rw[List.take_length]
theorem E4d {l:List RI} {i:Nat} (h:l.length<=i):catI l i=catI l l.length:=by unfold catI;rw[List.take_of_length_le h,List.take_length]
def SIc (t:T) (l:List RI) (i:Nat):A0b:=⟨[(11,.t (iv (i:Int))),(10,.t (iv (l.length:Int))),(9,.t t),(3,.t (iv ((catI l i).length:Int))),(0,.t t)],[],0,36⟩
def SId (t:T) (l:List RI) (i:Nat):A0b:=⟨[(27,.t (iv (i:Int))),(26,.t (iv (l.length:Int))),(25,.t t),(6,.t nilS)],[],0,36⟩
def SIe (t:T) (l:List RI) (i:Nat):A0b:=⟨[(27,.t (iv (i:Int))),(26,.t (iv (l.length:Int))),(25,.t t),(6,.row 0 0 (catI l i).length 9)],[]++[(0,A1p eIC 28 (catI l i))],1,36⟩
theorem C9l {t:T} {l:List RI} (ht:IsS eRI t l) (hs:(l.flatMap RI.m).length<=1000000) (hl:l.length<=1000000):A1n Tryz.prog (G q) 75 [.t t] [] 0 (rowP eIC 0 (l.flatMap RI.m)) (rowH eIC 28 0 (l.flatMap RI.m)) 1:=by
 have l1:=ht.len
 have hcl:∀i,(catI l i).length<=1000000:=fun i=>by
  by_cases h:i<=l.length
  ·have:=C9k (l:=l) h;rw[C5v]at this;omega
  ·rw[E4d (by omega),C5v];exact hs
 have hel:∀(i:Nat) (x:RI),l[i]?=some x->A1c 1 (.t t) (.t (iv (i:Int)))=some (.t (.pt (x.t::rest eRI l i))):=fun i x hx=>ht.iaddr hx .i64;have ld:∀(x:RI) i H,A0f false 1 H (.t (.pt (x.t::rest eRI l i)))=some (.t x.t):=fun _ _ _=>rfl;rw[<-C5v]
 obtain⟨N,hN⟩:∃N,N=(catI l l.length).length:=⟨_,rfl⟩
 have hg:=D8m (q:=q) (H:=[]) (nx:=0) (n:=N) (by rw[hN];have:=hcl l.length;omega);refine B9w.callP rfl ?_;(conv in B0q=>cbv);refine A0a A1b ?_;simp -implicitDefEqProofs;refine A0a A1b ?_;simp -implicitDefEqProofs;refine A1f (α:=Unit) (fun _=>⟨[(3,.t (iv (N:Int))),(0,.t t)],[],0,36⟩) (fun _=>True) (fun _=>rfl) ?_ ?_
 ·refine A0a A1b ?_;simp -implicitDefEqProofs [l1];refine A0n ?_;refine D3i (SIc t l) l.length (fun _=>rfl) ?_ rfl ?_ ?_
  ·refine A0e ?_;simp -implicitDefEqProofs [SIc,catI]
  ·intro i hi
   obtain⟨x,hx⟩:∃x,l[i]?=some x:=⟨_,List.getElem?_eq_getElem hi⟩
   have i1:=hel i x hx;have lx:=x.ok.len;have e1:IntKind.i64.wrap ((i:Int)+1)=((i+1:Nat):Int):=A0p (by omega) (by omega);have hst:=C0r hx;have hlen:=hcl (i+1)
   have e2:IntKind.i64.wrap (((catI l i).length:Int)+(x.m.length:Int))=((catI l (i+1)).length:Int):=by
    rw[hst,List.length_append]at *;exact A0p (by omega) (by omega)
   have hnn:¬((catI l (i+1)).length:Int)<0:=by omega
   refine A0c A1b ?_;simp -implicitDefEqProofs [SIc,hi,i1,ld,lx,e1,e2,hnn];exact A0e (by simp -implicitDefEqProofs [SIc])
  ·refine A0c A1b ?_;simp -implicitDefEqProofs [SIc];exact Abs.Next.mk () trivial (A0e (by simp -implicitDefEqProofs [SIc,hN]))
 rintro _ -;by_cases h0:N=0
 ·have hnil:∀i,i<=l.length->catI l i=[]:=fun i hi=>by
   have:=C9k (l:=l) hi;exact List.eq_nil_of_length_eq_zero (by omega)
  rw[h0]at hg;simp only[if_true]at hg
  obtain⟨t1,o1,ok1⟩:∃t1,t1 [.t nilS,.t (iv (0:Nat))] ([]:Heap) 0=some (.t nilS,[],0)/\HOK Tryz.prog (G q) 128 t1:=⟨_,A2j _ _ _ _,A2x hg (fun hf=>hf)⟩
  have o1:t1 [.t (.v (.slice none 0 0)),.t (.v (.int .i64 0))] [] 0=some (.t nilS,[],0):=o1;have C:Ctx Tryz.prog (G q) _:=A0x.nil.ctxH (A1s.cons ok1 .nil) mixed;rw[hnil l.length (Nat.le_refl _)];subst h0;refine A0a C ?_;simp -implicitDefEqProofs [o1];refine A1f (α:=Unit) (fun _=>⟨[(6,.t nilS)],[],0,36⟩) (fun _=>True) (fun _=>rfl) ?_ ?_
  ·refine A0a A1b ?_;simp -implicitDefEqProofs [l1];refine A0n ?_;refine D3i (SId t l) l.length (fun _=>rfl) ?_ rfl ?_ ?_
   ·refine A0e ?_;simp -implicitDefEqProofs [SId]
   ·intro i hi
    obtain⟨x,hx⟩:∃x,l[i]?=some x:=⟨_,List.getElem?_eq_getElem hi⟩
    have i1:=hel i x hx;have e1:IntKind.i64.wrap ((i:Int)+1)=((i+1:Nat):Int):=A0p (by omega) (by omega)
    have hpx:x.m=[]:=by
     have:=C0r hx;rw[hnil i (by omega),hnil (i+1) (by omega)]at this;simpa using this.symm
    have hxok:=x.ok;rw[hpx]at hxok
    have ap:∀H nx,appM 28 9 136 H nx (.t nilS) (.t x.t)=some (.t nilS,H,nx):=fun _ _=>by
     rcases hxok with⟨e,_⟩ | e<;>rw[e]<;>rfl
    have ldx:=ld x i;refine A0c A1b ?_;simp -implicitDefEqProofs [SId,hi,i1,ldx,ap,e1];exact A0e (by simp -implicitDefEqProofs [SId])
   ·refine A0c A1b ?_;simp -implicitDefEqProofs [SId];exact Abs.Next.mk () trivial (A0e (by simp -implicitDefEqProofs [SId]))
  ·rintro _ -;refine A0c A1b ?_;simp -implicitDefEqProofs;exact⟨.inr rfl,⟨[(2,.t nilS)],[],1,36⟩,[.t nilS],B1o (by omega) (by simp -implicitDefEqProofs [under]),rfl,rfl,rfl,rfl⟩
 ·rw[if_neg h0,if_neg h0,if_neg h0]at hg
  obtain⟨t1,o1,ok1⟩:∃t1,t1 [.t nilS,.t (iv (N:Int))] ([]:Heap) 0=some (.row 0 0 0 9,[(0,.cells 28 [])],1)/\HOK Tryz.prog (G q) 128 t1:=⟨_,A2j _ _ _ _,A2x hg (fun _ b x hb=>by
   simp only[look_cons,look_nil]at hb;split at hb
   ·omega
   ·cases hb)⟩
  have o1:t1 [.t (.v (.slice none 0 0)),.t (iv (N:Int))] [] 0=some (.row 0 0 0 9,[(0,.cells 28 [])],1):=o1;have C:Ctx Tryz.prog (G q) _:=A0x.nil.ctxH (A1s.cons ok1 .nil) mixed;refine A0a C ?_;simp -implicitDefEqProofs [o1];refine A1f (α:=Unit) (fun _=>⟨[(6,.row 0 0 (catI l l.length).length 9)],[]++[(0,A1p eIC 28 (catI l l.length))],1,36⟩) (fun _=>True) (fun _=>rfl) ?_ ?_
  ·refine A0a A1b ?_;simp -implicitDefEqProofs [l1];refine A0n ?_;refine D3i (SIe t l) l.length (fun _=>rfl) ?_ rfl ?_ ?_
   ·have:catI l 0=[]:=by simp[catI]
    unfold SIe;rw[this];refine D5e (e:=eIC) (l:=[]) (k:=0) rfl (by omega) (by omega) (fun q hq=>by cases hq) ?_;simp -implicitDefEqProofs [ren,under]
   ·intro i hi
    obtain⟨x,hx⟩:∃x,l[i]?=some x:=⟨_,List.getElem?_eq_getElem hi⟩
    have i1:=hel i x hx;have e1:IntKind.i64.wrap ((i:Int)+1)=((i+1:Nat):Int):=A0p (by omega) (by omega);have hst:=C0r hx;have hlen:=hcl (i+1)
    have hlen2:(catI l i).length+x.m.length<=1000000:=by rw[hst,List.length_append]at hlen;exact hlen
    have ap:=C5p (e:=eIC) (ty:=28) (b:=0) (l:=catI l i) (by':=136) (nx:=1) (H:=[(0,A1p eIC 28 (catI l i))]) (src:=.t (x.t)) rfl (C4o x.ok) (by omega) (by omega);rw[<-hst]at ap;have ap:appM 28 9 136 [(0,A1p eIC 28 (catI l i))] 1 (.row 0 0 (catI l i).length 9) (.t (x.t))=some (.row 1 0 (catI l (i+1)).length 9,[(1,A1p eIC 28 (catI l (i+1)))],2):=ap;refine A0c A1b ?_;simp -implicitDefEqProofs [SIe,hi,i1,ld,ap,e1];refine D5e (e:=eIC) (l:=catI l (i+1)) (R:=[]) (k:=1) rfl (by omega) (by omega) (fun q hq=>by cases hq) ?_;simp -implicitDefEqProofs [ren,under]
   ·refine A0c A1b ?_;simp -implicitDefEqProofs [SIe];exact Abs.Next.mk () trivial (A0e (by simp -implicitDefEqProofs))
  ·rintro _ -;refine A0c A1b ?_;simp -implicitDefEqProofs;have hne:catI l l.length≠[]:=fun e=>h0 (by rw[hN,e];rfl)
   have er:rowP eIC 0 (catI l l.length) = .row 0 0 (catI l l.length).length 9:=by
    cases h:catI l l.length with
    | nil=>exact absurd h hne
    | cons x r=>rfl
   have eh:rowH eIC 28 0 (catI l l.length)=[(0,A1p eIC 28 (catI l l.length))]:=by
    cases h:catI l l.length with
    | nil=>exact absurd h hne
    | cons x r=>rfl
   rw[er,eh];exact⟨.inr rfl,_,_,Sub.refl _,rfl,rfl,rfl,rfl⟩
def Dst (H:Heap) (d:PV) (l:List IC) (b:Nat):Prop:=(d = .t nilS/\l=[])\/(d = .row b 0 l.length 9/\Abs.look H b=some (A1p eIC tyI l))
abbrev zIt:List Value:=[.string ⟨#[]⟩,.slice none 0 0,.int .i64 0,.slice none 0 0,.int .i64 0,.string ⟨#[]⟩,.int .i64 0,.int .i64 0,.slice none 0 0]
def B2r (H:Heap) (nx:Nat):Prop:=∀b x,Abs.look H b=some x->b<nx
theorem B1d {H:Heap} {nx b:Nat} {r:Row} (h:B2r H nx):B2r ((nx,r)::rem H b) (nx+1):=fun k x hk=>by
 rcases A7p hk with⟨rfl,_⟩ | ⟨_,_,h3⟩
 ·omega
 ·have:=h k x h3;omega
theorem E4e {u:T} {l:List IC} (hu:IsS eIC u l) (hl:l.length<=100000) {H:Heap} {nx:Nat} (hf:B2r H nx) :
  ∃(d:PV) (b:Nat) (Hc:Heap) (nx':Nat) (t1:List PV->Heap->Nat->Option (PV×Heap×Nat)),t1 [.t u] H nx=some (d,Hc,nx')/\HOK Tryz.prog (G q) 72 t1/\Dst Hc d l b/\nx<=b/\b<=nx'/\nx<=nx'/\(d = .t nilS\/b<nx')/\B2r Hc nx'/\(∀j,j<nx->Abs.look Hc j=Abs.look H j):=by
 by_cases hn:u=nilS
 ·subst hn
  have hl0:l=[]:=by
   rcases hu with⟨_,h⟩ | h
   ·exact h
   ·cases h
  have hc:A1n Tryz.prog (G q) 72 [.t nilS] H nx (.t nilS) H nx:=by
   refine B2k.callP rfl ?_;(conv in A7y=>cbv);refine A0a A1b ?_;simp -implicitDefEqProofs;refine A0a A1b ?_;simp -implicitDefEqProofs;exact⟨.inr rfl,⟨[(2,.t nilS)],H,nx,8⟩,[.t nilS],A0e (by simp -implicitDefEqProofs),rfl,rfl,rfl,rfl⟩
  exact⟨.t nilS,nx,H,nx,_,A2j _ _ _ _,A2x hc (fun h=>h),.inl ⟨rfl,hl0⟩,Nat.le_refl _,Nat.le_refl _,Nat.le_refl _,.inl rfl,hf,fun _ _=>rfl⟩
 ·have hu2:u=slT eIC l:=by
   rcases hu with⟨h,_⟩ | h
   ·exact absurd h hn
   ·exact h
  have hs:srcP ((nx,.cells tyI [])::H) 9 (.t u)=some (l.length,(l.flatMap eIC.enc).map .t):=C4o (e:=eIC) hu;have ap:=C5p (e:=eIC) (ty:=tyI) (b:=nx) (l:=[]) (by':=136) (nx:=nx+1) (H:=(nx,.cells tyI [])::H) (m:=l) (by rw[look_cons,if_pos rfl];rfl) hs (by simp;omega) (by simp;omega);simp only[List.nil_append,List.length_nil]at ap;have ap:appM tyI 9 136 ((nx,.cells tyI [])::H) (nx+1) (.row nx 0 0 9) (.t u)=some (.row (nx+1) 0 l.length 9,(nx+1,A1p eIC tyI l)::rem ((nx,.cells tyI [])::H) nx,nx+2):=ap
  obtain⟨Hc,hHc⟩:∃Hc,Hc=(nx+1,A1p eIC tyI l)::rem ((nx,.cells tyI [])::H) nx:=⟨_,rfl⟩
  rw[<-hHc]at ap
  have hc:A1n Tryz.prog (G q) 72 [.t u] H nx (.row (nx+1) 0 l.length 9) Hc (nx+2):=by
   rw[hu2]at ap ⊢;unfold slT at ap ⊢;have bs:A5z tyI 9 zIt 0 [] nx=some (.row nx 0 0 9,.cells tyI []):=rfl;generalize l.length=n at *;generalize l.flatMap eIC.enc=cs at *;refine B2k.callP rfl ?_;(conv in A7y=>cbv);refine A0a A1b ?_;simp -implicitDefEqProofs;refine A0a A1b ?_;simp -implicitDefEqProofs;refine A0c A1b ?_;simp -implicitDefEqProofs [bs,ap];exact⟨.inr rfl,⟨[(2,.row (nx+1) 0 n 9)],Hc,nx+2,8⟩,[.row (nx+1) 0 n 9],A0e (by simp -implicitDefEqProofs),rfl,rfl,rfl,rfl⟩
  have hf2:B2r Hc (nx+2):=by
   rw[hHc];refine B1d (nx:=nx+1) fun b x hb=>?_;rw[look_cons]at hb;split at hb
   ·omega
   ·have:=hf b x hb;omega
  exact⟨_,nx+1,Hc,nx+2,_,A2j _ _ _ _,A2x hc (fun _=>hf2),.inr ⟨rfl,by rw[hHc,look_cons,if_pos rfl]⟩,by omega,by omega,by omega,.inr (by omega),hf2,fun j hj=>by
   rw[hHc,look_cons,if_neg (by omega),A2f,if_neg (by omega),look_cons,if_neg (by omega)]⟩
theorem F2v {H:Heap} {nx b k i:Nat} {d:PV} {l:List IC} {x:IC} (hd:Dst H d l b) (hk:Abs.look H k=some (.cells tyI (x.cs.map .t))) (hbk:d = .t nilS\/b≠k) (hi:i<=l.length) (hl:l.length<=100000) (hf:B2r H nx) :
  ∃(H':Heap) (t1:List PV->Heap->Nat->Option (PV×Heap×Nat)),t1 [d,.t (iv (i:Int)),.row k 0 1 9] H nx=some (.row nx 0 (l.length+1) 9,H',nx+1)/\HOK Tryz.prog (G q) 73 t1/\Abs.look H' nx=some (A1p eIC tyI (insL l i x))/\B2r H' (nx+1)/\(∀j,j≠nx->(d = .t nilS\/j≠b)->Abs.look H' j=Abs.look H j):=by
 by_cases hlt:i<l.length
 ·rcases hd with⟨_,e⟩ | ⟨rfl,hb⟩
  ·rw[e]at hlt;simp at hlt
  ·have hb2:b≠k:=hbk.resolve_left (fun h=>by cases h)
   exact⟨_,_,A2j _ _ _ _,A2x (E8e (q:=q) (nx:=nx) hb hk hb2 hlt hl) (fun _=>B1d hf),by rw[look_cons,if_pos rfl],B1d hf,fun j h1 h2=>by
    rw[look_cons,if_neg (fun e=>h1 e.symm),A2f,if_neg (h2.resolve_left (fun h=>by cases h))]⟩
 ·have hin:i=l.length:=by omega
  subst hin
  have hinl:insL l l.length x=l++[x]:=by unfold insL;rw[List.take_length,List.drop_length]
  rw[hinl];have hsrc:srcP H 9 (.row k 0 1 9)=some ([x].length,([x].flatMap eIC.enc).map .t):=C4n (e:=eIC) x hk
  obtain⟨n,hn⟩:∃n,n=l.length:=⟨_,rfl⟩
  rw[<-hn]at hl ⊢
  have fin:∀H',appM tyI 9 136 H nx d (.row k 0 1 9)=some (.row nx 0 (n+1) 9,H',nx+1)->A6o d=some (.t (iv (n:Int)))->(∃y,A3l 9 d (some (.t (iv (n:Int)))) none=some y) ->
    A1n Tryz.prog (G q) 73 [d,.t (iv (n:Int)),.row k 0 1 9] H nx (.row nx 0 (n+1) 9) H' (nx+1):=fun H' ap ln ⟨y,sl⟩=>by
   refine C0p.callP rfl ?_;(conv in B1b=>cbv);refine A0a A1b ?_;simp -implicitDefEqProofs;refine A0a A1b ?_;simp -implicitDefEqProofs [sl];refine A0a A1b ?_;simp -implicitDefEqProofs;refine A0a A1b ?_;simp -implicitDefEqProofs;refine A0a A1b ?_;simp -implicitDefEqProofs [ln];refine A0a A1b ?_;simp -implicitDefEqProofs [ap];exact⟨.inr rfl,⟨[(6,.row nx 0 (n+1) 9)],H',nx+1,95⟩,[.row nx 0 (n+1) 9],A0e (by simp -implicitDefEqProofs),rfl,rfl,rfl,rfl⟩
  rcases hd with⟨rfl,e⟩ | ⟨rfl,hb⟩
  ·subst e;have hn:n=0:=hn;subst hn
   have hx9:([x].flatMap eIC.enc).map PV.t=x.cs.map .t:=by simp[eIC]
   have ap:appM tyI 9 136 H nx (.t nilS) (.row k 0 1 9)=some (.row nx 0 (0+1) 9,(nx,A1p eIC tyI [x])::H,nx+1):=by
    simp only[appM,hsrc];simp[A1p]
   have hf2:B2r ((nx,A1p eIC tyI [x])::H) (nx+1):=fun b x hb=>by
    rw[look_cons]at hb;split at hb
    ·omega
    ·have:=hf b x hb;omega
   refine⟨_,_,A2j _ _ _ _,A2x (fin _ ap rfl ⟨_,rfl⟩) (fun _=>hf2),by rw[look_cons,if_pos rfl];rfl,hf2,fun j h1 _=>by rw[look_cons,if_neg (fun e=>h1 e.symm)]⟩
  ·have ap:=C5p (e:=eIC) (ty:=tyI) (by':=136) (nx:=nx) (m:=[x]) hb hsrc (by simp;omega) (by simp;omega);rw[List.length_append,<-hn]at ap;have ap:appM tyI 9 136 H nx (.row b 0 n 9) (.row k 0 1 9)=some (.row nx 0 (n+1) 9,(nx,A1p eIC tyI (l++[x]))::rem H b,nx+1):=ap;rw[<-hn]at *
   have sl:∃y,A3l 9 (.row b 0 n 9) (some (.t (iv (n:Int)))) none=some y:=by
    by_cases h0:n=0
    ·subst h0;exact⟨_,rfl⟩
    ·have:boundV (some (.t (iv (n:Int)))) 0=some n:=by simp[boundV]
     simp only[A3l,this,boundV];simp[h0]
   exact⟨_,_,A2j _ _ _ _,A2x (fin _ ap rfl sl) (fun _=>B1d hf),by rw[look_cons,if_pos rfl],B1d hf,fun j h1 h2=>by
    rw[look_cons,if_neg (fun e=>h1 e.symm),A2f,if_neg (h2.resolve_left (fun h=>by cases h))]⟩
end Go.Proofs.YtmplckgbeaifkaaGreatDoor
namespace Go.Abs
open Go
theorem C9m {P:Program} {G:A0q} {α:Type} {e:Enc α} {ty:Nat} {f:FuncId} {ar:List T} {p:List α} (h:A1n P G f (ar.map .t) [] 0 (rowP e 0 p) (rowH e ty 0 p) 1) (H:Heap) (nx:Nat) :
  A1n P G f (ar.map .t) H nx (rowP e nx p) (rowH e ty nx p++H) (nx+1):=by
 have h:=h.lift id nx H (rowH e ty nx p++H) (fun b hb=>by omega) (fun b c hb _ _=>by omega) (by omega) (fun q hq=>by simp at hq) (A2b _ _) (A4p _ _ _ _ (by omega)) (fun q hq=>by
   obtain⟨_,rfl⟩:=A5r hq
   exact⟨by show 0<1;omega,A1v _ _ _ _⟩) ?_
 ·rw[A7f,C3g]at h
  have e:A4o id 0 nx 0=nx:=by simp[A4o]
  rw[e]at h;exact h
 ·intro b x hb
  cases hs:p with
  | nil=>
   rw[hs]at hb;right;exact⟨hb,fun b0 x0 h0=>by simp[Abs.look]at h0⟩
  | cons y r=>
   rw[hs]at hb;simp only[rowH,List.cons_append,List.nil_append,look_cons]at hb;by_cases hnb:nx=b
   ·rw[if_pos hnb]at hb;injection hb with hb;subst hb;left;refine⟨0,A1p e ty (y::r),by simp[rowH,A1p],by simp[A4o,hnb],?_⟩;rw[A2c];rfl
   ·rw[if_neg hnb]at hb;right;exact⟨hb,fun b0 x0 h0=>by simp[Abs.look]at h0⟩
theorem C5w {α:Type} {e:Enc α} {ty:Nat} {p:List α} {H:Heap} {nx:Nat} (hf:∀b x,Abs.look H b=some x->b<nx):∀b x,Abs.look (rowH e ty nx p++H) b=some x->b<nx+1:=by
 intro b x hb
 cases p with
 | nil=>have:=hf b x hb;omega
 | cons y r=>
  simp only[rowH,List.cons_append,List.nil_append,look_cons]at hb;split at hb
  ·omega
  ·have:=hf b x hb;omega
end Go.Abs
namespace Go.Proofs.YtmplckgbeaifkaaGreatDoor
open Go Go.Abs
variable {q : Gl}
def zIC:IC:=⟨⟨⟨#[]⟩,[],0,[],A1y⟩,[sv ⟨#[]⟩,nilS,iv 0,nilS,iv 0,sv ⟨#[]⟩,iv 0,iv 0,nilS],nilS,nilS,encD A1y,rfl,.inl ⟨rfl,rfl⟩,.inl ⟨rfl,rfl⟩,IsD.enc A1y⟩
def getT (id:ByteArray) (l:List IC):T:=.tu [.ag ((getC id l).getD zIC).cs,bv (getC id l).isSome]
theorem bdZ9 (Φ:A0o) (H:Heap) (nx:Nat):A0d Φ H nx (.build [(0,1),(1,1),(2,1),(3,1),(4,5)] [.string ⟨#[]⟩,.slice none 0 0,.int .i64 0,.slice none 0 0,.int .i64 0,.string ⟨#[]⟩,.int .i64 0,.int .i64 0,.slice none 0 0] []) []=some (.t (.ag [sv ⟨#[]⟩,nilS,iv 0,nilS,iv 0,sv ⟨#[]⟩,iv 0,iv 0,nilS]),H,nx):=rfl
theorem E8h {ver id:ByteArray} {u:T} {l:List IC} (hu:IsS eIC u l) (hs:C0o l) (hl:l.length<=1000000):A0z Tryz.prog (G q) 42 [.ag [sv ver,u],sv id] (· = getT id l):=by
 have cd:A0y (.t (.ag [sv ver,u]))=some [.t (sv ver),.t u]:=rfl;have eF:=D2c (ver:=ver) id hu (B3t hs id) hl;obtain⟨f1,f2,_⟩:=C5u id hs;rw[f1]at eF
 obtain⟨P,hP⟩:∃P,P=getT id l:=⟨_,rfl⟩
 rw[<-hP];unfold getT at hP
 obtain⟨X,hX⟩:∃X,X=bRow ver u:=⟨_,rfl⟩
 obtain⟨Z,hZ⟩:∃Z,Z=zI:=⟨_,rfl⟩
 have z:=ldB (ver:=ver) (u:=u) (H:=[(1,Z),(0,X)]) (b:=0) (by rw[hX];rfl);have C:Ctx Tryz.prog (G q) _:=(A0x.cons (hFnd (q:=q)) .nil).ctx mixed;refine C1r.call rfl ?_;(conv in B2n=>cbv);refine A0a C ?_;simp -implicitDefEqProofs [cd];rw[show Row.cells 39 [.t (sv ver),.t u]=X from hX.symm];rw[show Row.cells 28 [.t (.v (.string ⟨#[]⟩)),.t (.v (.slice none 0 0)),.t (.v (.int .i64 0)),.t (.v (.slice none 0 0)),.t (.v (.int .i64 0)),.t (.v (.string ⟨#[]⟩)),.t (.v (.int .i64 0)),.t (.v (.int .i64 0)),.t (.v (.slice none 0 0))]=Z from hZ.symm];refine A0a C ?_;simp -implicitDefEqProofs [z.a,eF]
 cases hg:getC id l with
 | none=>
  rw[hg]at hP;have s1:=sI10 ⟨#[]⟩ nilS 0 nilS 0 ⟨#[]⟩ 0 0 nilS [(0,X)] ⟨#[]⟩ nilS 0 nilS 0 ⟨#[]⟩ 0 0 nilS
  have s1:A0r 9 [(1,Z),(0,X)] (.ptr 1 0) (.t (.ag [sv ⟨#[]⟩,nilS,iv 0,nilS,iv 0,sv ⟨#[]⟩,iv 0,iv 0,nilS]))=some [(1,zI),(0,X)]:=by rw[hZ];exact s1
  have y:=ldI ⟨#[]⟩ nilS 0 nilS 0 ⟨#[]⟩ 0 0 nilS (H:=[(1,zI),(0,X)]) (b:=1) rfl;have bz:=bdZ9;refine A0a C ?_;simp -implicitDefEqProofs [bz,s1,y.a,hP,-evalK_build];rfl
 | some c=>
  rw[hg]at hP f2;have hx:=f2 rfl;obtain⟨pp,i1,ld9,_⟩:=C9f hu hx;obtain⟨tw,td,k,nm,f,t,tk,ks,ecs,_⟩:=A3f c.ok;rw[ecs]at ld9;have hP:P = .tu [.ag c.cs,bv true]:=hP;rw[ecs]at hP;have s1:=sI10 c.x.id tw c.x.state td k nm f t tk [(0,X)] ⟨#[]⟩ nilS 0 nilS 0 ⟨#[]⟩ 0 0 nilS
  have s1:A0r 9 [(1,Z),(0,X)] (.ptr 1 0) (.t (.ag [sv c.x.id,tw,iv c.x.state,td,iv k,sv nm,iv f,iv t,tk]))=some [(1,iRow c.x.id tw c.x.state td k nm f t tk),(0,X)]:=by rw[hZ];exact s1
  have y:=ldI c.x.id tw c.x.state td k nm f t tk (H:=[(1,iRow c.x.id tw c.x.state td k nm f t tk),(0,X)]) (b:=1) rfl;refine A0a C ?_;simp -implicitDefEqProofs;refine A0c C ?_;simp -implicitDefEqProofs [z.l1,i1,ld9,s1,y.a,hP]
def E8i (ver:ByteArray) (u:T) (id:ByteArray) (l:List IC):T:=if(getC id l).isSome then .tu [.ag [sv ver,A2e eIC (remC id l)],iv 0]else .tu [.ag [sv ver,u],iv 16]
theorem bd2p (Φ:A0o) (H:Heap) (nx:Nat) (v:ByteArray) (m:List IC) (b:Nat):A0d Φ H nx (.build [(0,1),(1,1)] [.string ⟨#[]⟩,.slice none 0 0] [0,1]) [.t (sv v),rowP eIC b m]=some (agOf [.t (sv v),rowP eIC b m],H,nx):=by
 cases m<;>rfl
theorem st2p {H:Heap} {b c:Nat} {v v':ByteArray} {u':T} {m:List IC} (h:Abs.look H b=some (bRow v' u')):A0r 2 H (.ptr b 0) (agOf [.t (sv v),rowP eIC c m])=some (upd H b (oRow v (rowP eIC c m))):=by
 cases m<;>simp[A0r,agOf,allT,A0y,A3h,h,bRow,oRow,rowP]
theorem D2e {ver id:ByteArray} {u:T} {l:List IC} (hu:IsS eIC u l) (hs:C0o l) (hl:l.length<=1000000):A0z Tryz.prog (G q) 44 [.ag [sv ver,u],sv id] (· = E8i ver u id l):=by
 have cd:A0y (.t (.ag [sv ver,u]))=some [.t (sv ver),.t u]:=rfl;have eF:=D2c (ver:=ver) id hu (B3t hs id) hl;obtain⟨f1,f2,_,_,f5⟩:=C5u id hs;rw[f1]at eF
 obtain⟨P,hP⟩:∃P,P=E8i ver u id l:=⟨_,rfl⟩
 rw[<-hP];unfold E8i at hP
 obtain⟨X,hX⟩:∃X,X=bRow ver u:=⟨_,rfl⟩
 obtain⟨Z,hZ⟩:∃Z,Z=bRow ⟨#[]⟩ nilS:=⟨_,rfl⟩
 have z:=ldB (ver:=ver) (u:=u) (H:=[(1,Z),(0,X)]) (b:=0) (by rw[hX];rfl);have C:Ctx Tryz.prog (G q) _:=(A0x.cons (hFnd (q:=q)) .nil).ctx mixed;refine B6h.call rfl ?_;(conv in A8m=>cbv);refine A0a C ?_;simp -implicitDefEqProofs [cd];rw[show Row.cells 39 [.t (sv ver),.t u]=X from hX.symm];rw[show Row.cells 39 [.t (.v (.string ⟨#[]⟩)),.t (.v (.slice none 0 0))]=Z from hZ.symm];refine A0a C ?_;simp -implicitDefEqProofs [z.a,eF];generalize cntL (cmC id) l=n at *
 cases hg:(getC id l).isSome with
 | false=>
  rw[hg]at hP;simp only[Bool.false_eq_true,if_false]at hP;have s1:=sBu (H:=[(1,Z),(0,X)]) (b:=1) (v:=ver) (u:=u) (v':=⟨#[]⟩) (u':=nilS) (by rw[hZ];rfl) hu;have s1:A0r 2 [(1,Z),(0,X)] (.ptr 1 0) (.t (.ag [sv ver,u]))=some [(1,bRow ver u),(0,X)]:=s1;have y:=ldB (ver:=ver) (u:=u) (H:=[(1,bRow ver u),(0,X)]) (b:=1) rfl;refine A0a C ?_;simp -implicitDefEqProofs [z.a,s1,y.a,hP]
 | true=>
  rw[hg]at hP;simp only[if_true]at hP;have f2:=f2 hg;have f5:=f5 hg
  have hn:n<l.length:=by
   obtain⟨c,hc⟩:=Option.isSome_iff_exists.1 hg;rw[hc]at f2;exact(List.getElem?_eq_some_iff.1 f2).1
  obtain⟨t1,sl1,hs1⟩:=hu.slice_to (k:=n) (by omega) .i64;obtain⟨t2,sl2,hs2⟩:=hu.slice_from (k:=n+1) (by omega) .i64;have e1:IntKind.i64.wrap ((n:Int)+1)=((n+1:Nat):Int):=A0p (by omega) (by omega)
  obtain⟨R,hR⟩:∃R:List RI,R=[⟨t1,_,hs1⟩,⟨t2,_,hs2⟩]:=⟨_,rfl⟩
  have hRm:R.flatMap RI.m=remC id l:=by rw[hR,f5];simp
  have hml:(remC id l).length<=1000000:=by have:=List.length_filter_le (fun c:IC=>!decide (c.x.id=id)) l;unfold remC;omega
  have hc:=C9l (q:=q) (t:=slT eRI R) (l:=R) (IsS.mk R) (by rw[hRm];exact hml) (by rw[hR];simp);rw[hRm]at hc;have hc:=C9m (ar:=[slT eRI R]) hc [(1,Z),(0,X)] 2;generalize remC id l=m at *
  obtain⟨tb1,o1,ok1⟩:∃tb1,tb1 [.t (slT eRI R)] [(1,Z),(0,X)] 2=some (rowP eIC 2 m,rowH eIC 28 2 m++[(1,Z),(0,X)],3)/\HOK Tryz.prog (G q) 75 tb1:=⟨_,A2j _ _ _ _,A2x hc C5w⟩
  have C1:Ctx Tryz.prog (G q) _:=A0x.nil.ctxH (A1s.cons ok1 .nil) mixed
  have hRt:slT eRI R = .sl 2 [t1,t2]:=by rw[hR];rfl
  rw[hRt]at o1
  obtain⟨H3,hH3⟩:∃H3,H3=rowH eIC 28 2 m++[(1,Z),(0,X)]:=⟨_,rfl⟩
  rw[<-hH3]at o1
  have k1:Abs.look H3 1=some (bRow ⟨#[]⟩ nilS):=by rw[hH3,B6n (by omega),hZ];rfl
  have r2:A1e eIC 28 H3 2 m:=by rw[hH3];exact A1e.head eIC 28 [(1,Z),(0,X)] 2 m
  have bd:=fun Φ H nx=>bd2p Φ H nx ver m 2;have st:=st2p (v:=ver) (c:=2) (m:=m) k1
  obtain⟨H4,hH4⟩:∃H4,H4=upd H3 1 (oRow ver (rowP eIC 2 m)):=⟨_,rfl⟩
  rw[<-hH4]at st
  have k4:Abs.look H4 1=some (oRow ver (rowP eIC 2 m)):=by rw[hH4];exact A3z k1
  have r4:A1e eIC 28 H4 2 m:=r2.imp (fun h=>h) fun h=>by rw[hH4,A1d,if_neg (by omega)];exact h
  obtain⟨A,hA⟩:∃A,A=agOf [.t (sv ver),rowP eIC 2 m]:=⟨_,rfl⟩
  rw[<-hA]at bd st;have sl1:A3l 9 (.t u) none (some (.t (iv (n:Int))))=some (.t t1):=sl1;have sl2:A3l 9 (.t u) (some (.t (iv ((n+1:Nat):Int)))) none=some (.t t2):=sl2
  have en:((n+1:Nat):Int)=(n:Int)+1:=by omega
  rw[en]at sl2 e1
  have ts:A9b 37 1 [.slice none 0 0] 2 [(0,.t t1),(1,.t t2)]=some (.t (.sl 2 [t1,t2])):=by
   rcases hs1 with⟨e,_⟩ | e<;>rcases hs2 with⟨e',_⟩ | e'<;>rw[e,e']<;>rfl
  have k0:Abs.look H3 0=some X:=by rw[hH3,B6n (by omega)];rfl
  have z3:=(ldB (ver:=ver) (u:=u) (H:=H3) (b:=0) (by rw[k0,hX])).l0;refine A0a C ?_;simp -implicitDefEqProofs;refine A0a C1 ?_;simp -implicitDefEqProofs [z.l0,z.l1,e1,sl1,sl2,ts,o1,z3,bd,st,-evalK_build];have frz4:=C0m (F:=[2]) r4 (by simp);refine MC.sub (s':=⟨[(4,.ptr 1 0),(5,.t (iv 0))],[(1,bRow ver (A2e eIC m))],2,31⟩) ?_ rfl ?_
  ·refine B8g [2] (by omega) (fun z hz=>?_) fun z hz=>?_
   ·simp only[List.mem_singleton]at hz;subst hz;refine⟨by simp,⟨oRow ver (rowP eIC 2 m),k4,?_⟩,by show 1<2;omega,by exact A2b _ [sv ver,A2e eIC m]⟩;show Row.cells _ [.t (sv ver),frzP _ _ (rowP eIC 2 m)]=_;rw[frz4];rfl
   ·simp only[List.mem_cons,List.not_mem_nil,or_false]at hz;rcases hz with rfl | rfl
    ·exact⟨⟨_,rfl,rfl⟩,rfl⟩
    ·exact⟨⟨_,rfl,rfl⟩,rfl⟩
  have y:=ldB (ver:=ver) (u:=A2e eIC m) (H:=[(1,bRow ver (A2e eIC m))]) (b:=1) rfl;refine A0c C ?_;simp -implicitDefEqProofs [y.a,hP]
def putO (ver:ByteArray) (u:T) (l:List IC) (c:IC):T:=
 if A0v false c.x.id=false then .tu [.ag [sv ver,u],iv 1]
 else if chkR c.x≠0 then .tu [.ag [sv ver,u],iv (chkR c.x)]
 else if(getC c.x.id l).isSome=true\/l.length<256 then .tu [.ag [sv ver,A2e eIC (putC c l)],iv 0]
 else .tu [.ag [sv ver,u],iv 7]
theorem E4f (l:List IC) (n:Nat) (c:IC) (hn:n<l.length):A3h ((l.flatMap eIC.enc).map PV.t) (n*9) (c.cs.map .t)=((l.set n c).flatMap eIC.enc).map .t:=by
 have hx:c.cs.length=9:=c.ok.len;have hl:=A1w eIC l;rw[show eIC.z=9 from rfl]at hl;have h10:(n+1)*9<=l.length*9:=Nat.mul_le_mul_right 9 hn;rw[B8l (by rw[List.length_map,List.length_map,hx,hl];omega),<-E7t eIC c hn,List.length_map,hx,List.map_append,List.map_append,List.map_take,List.map_drop];rfl
theorem E4g {H:Heap} {b n:Nat} {l:List IC} {c:IC} (h:Abs.look H b=some (A1p eIC tyI l)) (hn:n<l.length):A0r 9 H (.ptr b (n*9)) (.t (.ag c.cs))=some (upd H b (A1p eIC tyI (l.set n c))):=by
 have hl:=A1w eIC l;rw[show eIC.z=9 from rfl]at hl;have hx:c.cs.length=9:=c.ok.len;have h9:n*9+9=(n+1)*9:=(Nat.succ_mul n 9).symm;have h10:(n+1)*9<=l.length*9:=Nat.mul_le_mul_right 9 hn;have hc:A0y (.t (.ag c.cs))=some (c.cs.map .t):=rfl;unfold A0r;simp only[hc,h,A1p,List.length_map,hx,hl];rw[E4f l n c hn];simp only[true_and];rw[if_pos (by omega)]
def SPt (M:Nat) (a:Heap×Nat×Nat):A0b:=⟨[(9,.row a.2.2 0 M 9),(4,.ptr 2 0),(2,.ptr 0 0)],a.1,a.2.1,51⟩
theorem D5j {ver:ByteArray} {u:T} {l:List IC} (hu:IsS eIC u l) (hs:C0o l) (hl:l.length<=100000) (c:IC) (hc:SmI c.x):A0z Tryz.prog (G q) 39 [.ag [sv ver,u],.ag c.cs] (· = putO ver u l c):=by
 have cd:A0y (.t (.ag [sv ver,u]))=some [.t (sv ver),.t u]:=rfl;have eN:=C3d hc.id;have eI:=E3p c hc;have eF:=D2c (ver:=ver) c.x.id hu (B3t hs c.x.id) (by omega);obtain⟨f1,f2,f3,f4,_⟩:=C5u c.x.id hs;rw[f1]at eF
 obtain⟨P,hP⟩:∃P,P=putO ver u l c:=⟨_,rfl⟩
 rw[<-hP];unfold putO at hP;obtain⟨tw,td,k,nm,f,t,tk,ks,ecs,_⟩:=A3f c.ok
 obtain⟨id,hid⟩:∃id,id=c.x.id:=⟨_,rfl⟩
 have cdx:A0y (.t (.ag c.cs))=some [.t (sv id),.t tw,.t (iv c.x.state),.t td,.t (iv k),.t (sv nm),.t (iv f),.t (iv t),.t tk]:=by rw[ecs,hid];rfl
 obtain⟨X,hX⟩:∃X,X=bRow ver u:=⟨_,rfl⟩
 obtain⟨Y,hY⟩:∃Y,Y=iRow id tw c.x.state td k nm f t tk:=⟨_,rfl⟩
 have hYc:Y = .cells tyI (c.cs.map .t):=by rw[hY,ecs,hid];rfl
 rw[<-hid]at eN;have z:=ldB (ver:=ver) (u:=u) (H:=[(2,bRow ⟨#[]⟩ nilS),(1,Y),(0,X)]) (b:=0) (by rw[hX];rfl);have y:=ldI id tw c.x.state td k nm f t tk (H:=[(2,bRow ⟨#[]⟩ nilS),(1,Y),(0,X)]) (b:=1) (by rw[hY];rfl)
 have ya:A0f true 9 [(2,bRow ⟨#[]⟩ nilS),(1,Y),(0,X)] (.ptr 1 0)=some (.t (.ag c.cs)):=by rw[y.a,ecs,hid]
 have C:Ctx Tryz.prog (G q) _:=(A0x.cons (hNm (q:=q)) (.cons (hItm (q:=q)) (.cons (hFnd (q:=q)) .nil))).ctx mixed;have s1:=sBu (H:=[(2,bRow ⟨#[]⟩ nilS),(1,Y),(0,X)]) (b:=2) (v:=ver) (u:=u) (v':=⟨#[]⟩) (u':=nilS) rfl hu;have s1:A0r 2 [(2,bRow ⟨#[]⟩ nilS),(1,Y),(0,X)] (.ptr 2 0) (.t (.ag [sv ver,u]))=some [(2,bRow ver u),(1,Y),(0,X)]:=s1;have w:=ldB (ver:=ver) (u:=u) (H:=[(2,bRow ver u),(1,Y),(0,X)]) (b:=2) rfl;refine C1q.call rfl ?_;(conv in B2m=>cbv);refine A0a C ?_;simp -implicitDefEqProofs [cd,cdx]
 rw[show Row.cells 39 [.t (sv ver),.t u]=X from hX.symm,show Row.cells 28 [.t (sv id),.t tw,.t (iv c.x.state),.t td,.t (iv k),.t (sv nm),.t (iv f),.t (iv t),.t tk]=Y from hY.symm,
  show Row.cells 39 [.t (.v (.string ⟨#[]⟩)),.t (.v (.slice none 0 0))]=bRow ⟨#[]⟩ nilS from rfl]
 cases h1:A0v false c.x.id with
 | false=>
  rw[if_pos h1]at hP;rw[hid,h1]at eN;rw[<-hid]at eN;refine A0a C ?_;simp -implicitDefEqProofs [y.l0,eN,z.a,s1,w.a,hP]
 | true=>
 rw[if_neg (by rw[h1];decide)]at hP;rw[hid,h1]at eN;rw[<-hid]at eN;by_cases h2:chkR c.x=0
 rotate_left
 ·rw[if_pos h2]at hP
  have hb:(chkR c.x != 0)=true:=by simpa using h2
  refine A0a C ?_;simp -implicitDefEqProofs [y.l0,eN];refine A0a C ?_;simp -implicitDefEqProofs [ya,eI,hb,z.a,s1,w.a,hP]
 rw[if_neg (fun e=>e h2)]at hP;rw[h2]at eI
 obtain⟨n,hn⟩:∃n,n=cntL (cmC c.x.id) l:=⟨_,rfl⟩
 rw[<-hn]at eF f2 f3 f4
 obtain⟨fl,hfl⟩:∃fl,fl=(getC c.x.id l).isSome:=⟨_,rfl⟩
 rw[<-hfl]at eF
 have eF:gFnd [.ag [sv ver,u],sv id]=some (.tu [iv (n:Int),bv fl]):=by rw[hid];exact eF
 have hnl:n<=l.length:=by rw[hn];exact List.countP_le_length
 have hf0:B2r [(2,bRow ⟨#[]⟩ nilS),(1,Y),(0,X)] 3:=fun b x hb=>by
  simp only[Abs.look]at hb
  repeat' (split at hb;· omega)
  cases hb
 obtain⟨d,b,Hc,nx',t1,o1,k1,hd,hb1,hb2,hb3,hb4,hfc,hlk⟩:=E4e (q:=q) hu hl hf0;have l0:Abs.look Hc 0=some X:=hlk 0 (by omega);have l1:Abs.look Hc 1=some Y:=hlk 1 (by omega);have l2:Abs.look Hc 2=some (bRow ⟨#[]⟩ nilS):=hlk 2 (by omega);have C1:Ctx Tryz.prog (G q) _:=(A0x.cons (hNm (q:=q)) (.cons (hItm (q:=q)) (.cons (hFnd (q:=q)) .nil))).ctxH (A1s.cons k1 .nil) mixed;refine A0a C ?_;simp -implicitDefEqProofs [y.l0,eN];refine A0a C ?_;simp -implicitDefEqProofs [ya,eI];refine A0a C1 ?_;simp -implicitDefEqProofs [z.a,y.l0,eF];refine A0a C1 ?_;simp -implicitDefEqProofs [z.l1,o1]
 have ldn:A6o d=some (.t (iv (l.length:Int))):=by
  rcases hd with⟨rfl,rfl⟩ | ⟨rfl,_⟩
  ·rfl
  ·rfl
 have yc:=ldI id tw c.x.state td k nm f t tk (H:=Hc) (b:=1) (by rw[l1,hY])
 have yca:A0f true 9 Hc (.ptr 1 0)=some (.t (.ag c.cs)):=by rw[yc.a,ecs,hid]
 have zc:=ldB (ver:=ver) (u:=u) (H:=Hc) (b:=0) (by rw[l0,hX])
 obtain⟨m,hm⟩:∃m,m=putC c l:=⟨_,rfl⟩
 have hmne:m≠[]:=by
  rw[hm]
  cases l with
  | nil=>simp[putC]
  | cons a r=>rw[putC];repeat' split<;>simp
 rw[<-hm]at hP;refine A1f (α:=Heap×Nat×Nat) (SPt m.length) (fun a=>P = .tu [.ag [sv ver,A2e eIC m],iv 0]/\Abs.look a.1 0=some X/\Abs.look a.1 2=some (bRow ⟨#[]⟩ nilS)/\Abs.look a.1 a.2.2=some (A1p eIC tyI m)/\a.2.2≠2) (fun _=>rfl) ?_ ?_
 ·refine A0n ?_
  cases hg:(getC c.x.id l).isSome with
  | true=>
   rw[hg]at hfl;subst hfl;rw[if_pos (.inl hg)]at hP;have f2:=f2 hg
   have hnlt:n<l.length:=by
    obtain⟨y0,hy0⟩:=Option.isSome_iff_exists.1 hg;rw[hy0]at f2;exact(List.getElem?_eq_some_iff.1 f2).1
   have f3:=f3 c;rw[if_pos ⟨hg,rfl⟩,if_pos ⟨hg,rfl⟩]at f3;obtain⟨rfl,hrow⟩:=hd.resolve_left (fun h=>by rw[h.2]at hnlt;simp at hnlt);have hbn:b<nx':=hb4.resolve_left (fun h=>by cases h);have ia:A1c 9 (.row b 0 l.length 9) (.t (iv (n:Int)))=some (.ptr b (n*9)):=D8f (e:=eIC) (List.getElem?_eq_getElem hnlt);have st:=E4g (c:=c) hrow hnlt;rw[f3,<-hm]at st
   have hml:m.length=l.length:=by rw[hm,<-f3,List.length_set]
   obtain⟨H1,hH1⟩:∃H1,H1=upd Hc b (A1p eIC tyI m):=⟨_,rfl⟩
   rw[<-hH1]at st;refine A0c C ?_;simp -implicitDefEqProofs [yca,ia,st];refine Abs.Next.mk (H1,nx',b) ⟨hP,?_,?_,?_,by show b≠2;omega⟩ (A0e (by simp -implicitDefEqProofs [SPt,hml]))
   ·show Abs.look H1 0=_;rw[hH1,A1d,if_neg (by omega)];exact l0
   ·show Abs.look H1 2=_;rw[hH1,A1d,if_neg (by omega)];exact l2
   ·show Abs.look H1 b=_;rw[hH1];exact A3z hrow
  | false=>
   rw[hg]at hfl;subst hfl;by_cases h3:l.length<256
   ·rw[if_pos (.inr h3)]at hP;have f4:=f4 c rfl hg;have bsl:=bsI id tw c.x.state td k nm f t tk nx';rw[<-hY]at bsl
    have ecs':[sv id,tw,iv c.x.state,td,iv k,sv nm,iv f,iv t,tk]=c.cs:=by rw[ecs,hid]
    rw[ecs']at bsl
    have hfx:B2r ((nx',Y)::Hc) (nx'+1):=fun j r hj=>by
     rw[look_cons]at hj;split at hj
     ·omega
     ·have:=hfc j r hj;omega
    have hdx:Dst ((nx',Y)::Hc) d l b:=by
     rcases hd with h | ⟨e,h⟩
     ·exact .inl h
     ·have:b<nx':=hb4.resolve_left (fun h=>by rw[e]at h;cases h);exact .inr ⟨e,by rw[look_cons,if_neg (by omega)];exact h⟩
    have hbk:d = .t nilS\/b≠nx':=hb4.imp (fun h=>h) fun h=>by omega
    obtain⟨H1,t2,o2,k2,r2,hf1,lk2⟩:=F2v (q:=q) (nx:=nx'+1) (k:=nx') (i:=n) (x:=c) hdx (by rw[look_cons,if_pos rfl,hYc]) hbk hnl hl hfx
    have hml:m.length=l.length+1:=by
     rw[hm,f4];exact D5h c hnl
    have hmi:insL l n c=m:=by rw[hm,f4];rfl
    rw[hmi]at r2;have C2:Ctx Tryz.prog (G q) _:=A0x.nil.ctxH (A1s.cons k2 .nil) mixed
    have h3':¬(256:Int)<=(l.length:Int):=by omega
    refine A0c C2 ?_;simp -implicitDefEqProofs [ldn,h3',yca,bsl,o2];refine Abs.Next.mk (H1,nx'+2,nx'+1) ⟨hP,?_,?_,r2,by show nx'+1≠2;omega⟩ (A0e (by simp -implicitDefEqProofs [SPt,hml]))
    ·show Abs.look H1 0=_;rw[lk2 0 (by omega) (hb4.imp (fun h=>h) fun h=>by omega),look_cons,if_neg (by omega)];exact l0
    ·show Abs.look H1 2=_;rw[lk2 2 (by omega) (hb4.imp (fun h=>h) fun h=>by omega),look_cons,if_neg (by omega)];exact l2
   ·rw[if_neg (by rw[hg];intro h;rcases h with h | h<;>simp_all)]at hP
    have h3':(256:Int)<=(l.length:Int):=by omega
    have s2:=sBu (H:=Hc) (b:=2) (v:=ver) (u:=u) (v':=⟨#[]⟩) (u':=nilS) l2 hu;have w2:=ldB (ver:=ver) (u:=u) (H:=upd Hc 2 (bRow ver u)) (b:=2) (A3z l2);refine A0c C ?_;simp -implicitDefEqProofs [ldn,h3',zc.a,s2,w2.a,hP,A8c]
 ·rintro⟨H1,nx1,b1⟩ ⟨hP,e0,e2,eb,hb12⟩;simp only at e0 e2 eb hb12;have z1:=ldB (ver:=ver) (u:=u) (H:=H1) (b:=0) (by rw[e0,hX])
  have hrp:rowP eIC b1 m = .row b1 0 m.length 9:=by
   cases m with
   | nil=>exact absurd rfl hmne
   | cons _ _=>rfl
  have bd:=fun Φ H nx=>bd2p Φ H nx ver m b1;have st:=st2p (v:=ver) (c:=b1) (m:=m) e2
  obtain⟨H4,hH4⟩:∃H4,H4=upd H1 2 (oRow ver (rowP eIC b1 m)):=⟨_,rfl⟩
  rw[<-hH4]at st
  have k4:Abs.look H4 2=some (oRow ver (rowP eIC b1 m)):=by rw[hH4];exact A3z e2
  have r4:A1e eIC tyI H4 b1 m:=.inr (by rw[hH4,A1d,if_neg hb12];exact eb)
  obtain⟨A,hA⟩:∃A,A=agOf [.t (sv ver),rowP eIC b1 m]:=⟨_,rfl⟩
  rw[<-hA]at bd st;rw[hrp]at bd;have frz4:=C0m (F:=[b1]) r4 (by simp);unfold SPt;refine A0a C ?_;simp -implicitDefEqProofs [z1.l0,bd,st,-evalK_build];refine MC.sub (s':=⟨[(4,.ptr 2 0),(5,.t (iv 0))],[(2,bRow ver (A2e eIC m))],3,51⟩) ?_ rfl ?_
  ·refine B8g [b1] (by omega) (fun z hz=>?_) fun z hz=>?_
   ·simp only[List.mem_singleton]at hz;subst hz;refine⟨by simp;omega,⟨oRow ver (rowP eIC b1 m),k4,?_⟩,by show 2<3;omega,by exact A2b _ [sv ver,A2e eIC m]⟩;show Row.cells _ [.t (sv ver),frzP _ _ (rowP eIC b1 m)]=_;rw[frz4];rfl
   ·simp only[List.mem_cons,List.not_mem_nil,or_false]at hz;rcases hz with rfl | rfl
    ·exact⟨⟨_,rfl,rfl⟩,rfl⟩
    ·exact⟨⟨_,rfl,rfl⟩,rfl⟩
  have y:=ldB (ver:=ver) (u:=A2e eIC m) (H:=[(2,bRow ver (A2e eIC m))]) (b:=2) rfl;refine A0c C ?_;simp -implicitDefEqProofs [y.a,hP]
theorem F2w (a b:ByteArray):(a.toList==b.toList)=decide (a=b):=by rw[<-A2w]
theorem E4h:∀l:List ByteArray,Lib.join (l.map (·.data.toList)) [32]=jn (l.map lbs)
 | []=>rfl
 | [s]=>by rw[List.map_cons,List.map_nil,Lib.join_one];rfl
 | s::x::r=>by
  have ih:=E4h (x::r);rw[List.map_cons,Lib.join_cons]at ih;rw[List.map_cons,Lib.join_cons];show _=lbs s++32::jn ((x::r).map lbs);rw[show jn ((x::r).map lbs)=_ from ih.symm];simp[Lib.joinTail]
theorem E4i {t:T} {l:List ByteArray} (h:IsS eStr t l) (hl:l.length<=1000) (hd:(jn (l.map lbs)).length<=1000000000):gJo [t,sv ⟨#[32]⟩]=some (sv (bs (jn (l.map lbs)))):=by
 have e:Lib.join (l.map (·.data.toList)) (⟨#[32]⟩:ByteArray).data.toList=jn (l.map lbs):=E4h l;show g2 _ _ _ _=_;rw[A7c (τ:=tSl eStr) (σ:=tStr) (x:=l) (y:=⟨#[32]⟩) h rfl,e,if_pos ⟨hl,hd⟩]
theorem E4j:FnOK Tryz.prog (G q) 76 2 7 A3d []:=by
 obtain⟨fn,h1,h2,h3,h4,h5⟩:=B3r (q:=q);exact⟨fn,h1,h2,h3,h4,by omega⟩
def lnB (ps:List ByteArray):List UInt8:=jn (ps.map lbs)++[10]
theorem E4k {tp:T} {ps:List ByteArray} (ht:IsS eStr tp ps) (hl:ps.length<=1000) (hd:(jn (ps.map lbs)).length<=1000000000) {p:PV} {l:List UInt8} (hp:p=pNil\/p = .ptr 0 0) (hlen:l.length+(lnB ps).length<=140737488355328) :
  A1n Tryz.prog (G q) 76 [.t tp,.ptr 0 0] ([(0,bldR p 1 l)]++(rowH eB tyU 1 l++[])) 2 (.t (.tu [])) ([(0,bldR (.ptr 0 0) 2 (l++lnB ps))]++(rowH eB tyU 2 (l++lnB ps)++[])) 3:=by
 obtain⟨H0,hH0⟩:∃H0,H0=[(0,bldR p 1 l)]++(rowH eB tyU 1 l++[]):=⟨_,rfl⟩
 rw[<-hH0]
 have h0:Abs.look H0 0=some (bldR p 1 l):=by rw[hH0];rfl
 have g0:A1e eB tyU H0 1 l:=by rw[hH0];exact(A1e.head eB tyU [] 1 l).cons (k:=0) (by omega)
 have eJ:=E4i ht hl hd
 obtain⟨s,hs⟩:∃s,s=lnB ps:=⟨_,rfl⟩
 have hcat:=fun Φ=>cat2 (Φ:=Φ) (a:=jn (ps.map lbs)) (b:=[10]) (c:=s) (by rw[hs];rfl) (by rw[hs];omega)
 have hne:s≠[]:=by rw[hs,lnB];simp
 rw[<-hs]at hlen ⊢;have hw:=E3j (q:=q) (nx:=2) (s:=s) h0 hp g0 hne hlen (by omega);have o1:=A2j [.ptr 0 0,.t (sv (bs s))] H0 2 (.t (.tu [iv (s.length:Int),.v .nilIface]),wsH H0 0 1 2 l (l++s),3);have C:Ctx Tryz.prog (G q) _:=(A0x.cons (hJo (q:=q)) .nil).ctxH (A1s.cons hw .nil) mixed;have r0:Abs.look (wsH H0 0 1 2 l (l++s)) 0=some (bldR (.ptr 0 0) 2 (l++s)):=C3n h0 (by omega) (.inr (by omega));have r1:A1e eB tyU (wsH H0 0 1 2 l (l++s)) 2 (l++s):=C3o;generalize wsH H0 0 1 2 l (l++s)=H1 at *;have eJ:gJo [tp,.v (.string ⟨#[32]⟩)]=some (.v (.string (bs (jn (ps.map lbs))))):=eJ;have hcat:∀(Φ:A0o) (H:Heap) (nx:Nat),A0d Φ H nx (.bin false .add none) [.t (.v (.string (bs (jn (ps.map lbs))))),.t (.v (.string ⟨#[10]⟩))]=some (.t (.v (.string (bs s))),H,nx):=fun Φ H nx=>hcat Φ false none H nx;have o1:hOne [.ptr 0 0,.t (.v (.string (bs s)))] H0 2 (.t (.tu [iv (s.length:Int),.v .nilIface]),H1,3) [.ptr 0 0,.t (.v (.string (bs s)))] H0 2=some (.t (.tu [iv (s.length:Int),.v .nilIface]),H1,3):=o1;refine E4j.callP rfl ?_;(conv in A3d=>cbv);refine A0c C ?_;simp -implicitDefEqProofs [eJ,hcat,o1];exact⟨.inl rfl,⟨[],[(0,bldR (.ptr 0 0) 2 (l++s))]++(rowH eB tyU 2 (l++s)++[]),3,7⟩,[],C0f r0 (.inr rfl) r1 (by omega) (by omega) (by omega) (by omega) (fun x hx=>(by cases hx)) (fun x hx=>(by cases hx)),rfl,rfl,by simp,rfl⟩
theorem E8j {ps:List ByteArray} (hl:ps.length<=1000) (hd:(jn (ps.map lbs)).length<=1000000000) {p:PV} {l:List UInt8} (hp:p=pNil\/p = .ptr 0 0) (hlen:l.length+(lnB ps).length<=140737488355328) :
  A1n Tryz.prog (G q) 76 [.row 2 0 ps.length 1,.ptr 0 0] ([(0,bldR p 1 l)]++(rowH eB tyU 1 l++[(2,A1p eStr 9 ps)])) 3 (.t (.tu [])) ([(0,bldR (.ptr 0 0) 3 (l++lnB ps))]++(rowH eB tyU 3 (l++lnB ps)++[(2,A1p eStr 9 ps)])) 4:=by
 obtain⟨R2,hR2⟩:∃R2,R2=A1p eStr 9 ps:=⟨_,rfl⟩
 obtain⟨H0,hH0⟩:∃H0,H0=[(0,bldR p 1 l)]++(rowH eB tyU 1 l++[(2,R2)]):=⟨_,rfl⟩
 rw[<-hR2,<-hH0]
 have h0:Abs.look H0 0=some (bldR p 1 l):=by rw[hH0];rfl
 have g0:A1e eB tyU H0 1 l:=by rw[hH0];exact(A1e.head eB tyU [(2,R2)] 1 l).cons (k:=0) (by omega)
 have h2:Abs.look H0 2=some R2:=by rw[hH0];cases l<;>rfl
 have eJ:=E4i (IsS.mk (e:=eStr) ps) hl hd;have tt:toT H0 (.row 2 0 ps.length 1)=some (slT eStr ps,[2]):=E7s (e:=eStr) (ty:=9) (l:=ps) (by rw[h2,hR2])
 obtain⟨s,hs⟩:∃s,s=lnB ps:=⟨_,rfl⟩
 have hcat:=fun Φ=>cat2 (Φ:=Φ) (a:=jn (ps.map lbs)) (b:=[10]) (c:=s) (by rw[hs];rfl) (by rw[hs];omega)
 have hne:s≠[]:=by rw[hs,lnB];simp
 rw[<-hs]at hlen ⊢;have hw:=E3j (q:=q) (nx:=3) (s:=s) h0 hp g0 hne hlen (by omega);have o1:=A2j [.ptr 0 0,.t (sv (bs s))] H0 3 (.t (.tu [iv (s.length:Int),.v .nilIface]),wsH H0 0 1 3 l (l++s),4);have C:Ctx Tryz.prog (G q) _:=(A0x.cons (hJo (q:=q)) .nil).ctxH (A1s.cons hw .nil) mixed;have r0:Abs.look (wsH H0 0 1 3 l (l++s)) 0=some (bldR (.ptr 0 0) 3 (l++s)):=C3n h0 (by omega) (.inr (by omega));have r1:A1e eB tyU (wsH H0 0 1 3 l (l++s)) 3 (l++s):=C3o;have r2:Abs.look (wsH H0 0 1 3 l (l++s)) 2=some R2:=(B1u (by omega) (.inr (by omega)) (by omega)).trans h2;generalize wsH H0 0 1 3 l (l++s)=H1 at *
 obtain⟨tp,htp⟩:∃tp,tp=slT eStr ps:=⟨_,rfl⟩
 rw[<-htp]at eJ tt;have eJ:gJo [tp,.v (.string ⟨#[32]⟩)]=some (.v (.string (bs (jn (ps.map lbs))))):=eJ;have hcat:∀(Φ:A0o) (H:Heap) (nx:Nat),A0d Φ H nx (.bin false .add none) [.t (.v (.string (bs (jn (ps.map lbs))))),.t (.v (.string ⟨#[10]⟩))]=some (.t (.v (.string (bs s))),H,nx):=fun Φ H nx=>hcat Φ false none H nx;have o1:hOne [.ptr 0 0,.t (.v (.string (bs s)))] H0 3 (.t (.tu [iv (s.length:Int),.v .nilIface]),H1,4) [.ptr 0 0,.t (.v (.string (bs s)))] H0 3=some (.t (.tu [iv (s.length:Int),.v .nilIface]),H1,4):=o1;have tt0:∀(H:Heap) (x:T),toT H (.t x)=some (x,[]):=fun _ _=>rfl;generalize ps.length=n at *;refine E4j.callP rfl ?_;(conv in A3d=>cbv);refine A0c C ?_;simp -implicitDefEqProofs [tt,tt0,eJ,hcat,o1,-toT]
 exact⟨.inl rfl,⟨[],[(0,bldR (.ptr 0 0) 3 (l++s))]++(rowH eB tyU 3 (l++s)++[(2,R2)]),4,7⟩,[],C0f r0 (.inr rfl) r1 (by omega) (by omega) (by omega) (by omega) (fun x hx=>by
  simp only[List.mem_singleton]at hx;subst hx
  exact⟨by rw[r2,hR2,A2c],by show 2<4;omega,by show 2≠3;omega,by show 2≠3;omega,by rw[hR2];exact A1v _ _ _ _,by show 2≠0;omega⟩) (fun x hx=>(by cases hx)),rfl,rfl,rfl,rfl⟩
theorem wne (l:List UInt8) (ps:List ByteArray):l++lnB ps≠[]:=by simp[lnB]
section
variable {H : Heap} {nx b g : Nat} {p : PV} {l : List UInt8} {ps : List ByteArray}
theorem F5u {tp:T} (ht:IsS eStr tp ps) (hl:ps.length<=1000) (hd:(jn (ps.map lbs)).length<=1000000000) (h:Abs.look H b=some (bldR p g l)) (hp:p=pNil\/p = .ptr b 0) (hg:A1e eB tyU H g l) (hlen:l.length+(lnB ps).length<=140737488355328) (hb:b<nx) (hgn:g<nx) (hgb:g≠b) :
  HOK Tryz.prog (G q) 76 (hOne [.t tp,.ptr b 0] H nx (.t (.tu []),wsH H b g nx l (l++lnB ps),nx+1)):=
 A2x (W.at_ (pre:=false) (ar:=[tp]) (fun p hp=>E4k ht hl hd hp hlen) (wne l ps) h hp hg hb hgn hgb) (B1v hb)
theorem E4l {k:Nat} (hk:Abs.look H k=some (A1p eStr 9 ps)) (hl:ps.length<=1000) (hd:(jn (ps.map lbs)).length<=1000000000) (h:Abs.look H b=some (bldR p g l)) (hp:p=pNil\/p = .ptr b 0) (hg:A1e eB tyU H g l) (hlen:l.length+(lnB ps).length<=140737488355328) (hb:b<nx) (hgn:g<nx) (hgb:g≠b) (hkn:k<nx) (hkb:k≠b) (hkg:k≠g) :
  HOK Tryz.prog (G q) 76 (hOne [.row k 0 ps.length 1,.ptr b 0] H nx (.t (.tu []),wsH H b g nx l (l++lnB ps),nx+1)):=by
 refine A2x ?_ (B1v hb)
 obtain⟨σ,hσ⟩:∃σ:Nat->Nat,σ=fun x=>if x=0 then b else if x=1 then g else k:=⟨_,rfl⟩
 have s0:σ 0=b:=by rw[hσ];rfl
 have s1:σ 1=g:=by rw[hσ];rfl
 have s2:σ 2=k:=by rw[hσ];rfl
 obtain⟨p0,hp0,hpr⟩:∃p0,(p0=pNil\/p0 = .ptr 0 0)/\p=ren σ p0:=by
  rcases hp with rfl | rfl
  ·exact⟨pNil,.inl rfl,rfl⟩
  ·exact⟨.ptr 0 0,.inr rfl,by simp[ren,s0]⟩
 have hpu:under 3 p0=true:=by rcases hp0 with rfl | rfl<;>rfl
 have:=W.lift (E8j (q:=q) hl hd hp0 hlen) (H:=H) (NX:=nx) σ (fun x _=>by rw[hσ];show(if x=0 then b else if x=1 then g else k)<nx;split;assumption;split<;>assumption)
  (fun x y hx hy e=>by
   rw[hσ]at e;have e:(if x=0 then b else if x=1 then g else k)=(if y=0 then b else if y=1 then g else k):=e;split at e
   ·split at e
    ·omega
    ·split at e<;>omega
   ·split at e
    ·split at e
     ·omega
     ·split at e<;>omega
    ·split at e
     ·omega
     ·split at e<;>omega) (by omega) (wne l ps) hpu (by rw[s0,s1,<-hpr];exact h) (by rw[s1];exact hg) (fun x hx=>by
   simp only[List.mem_singleton]at hx;subst hx
   exact⟨by show Abs.look H (σ 2)=_;rw[s2,hk,A2c],by show 2<=2;omega,by show 2<3;omega,A1v _ _ _ _⟩) (fun x hx=>by
   simp only[List.mem_singleton]at hx;subst hx
   exact⟨by rw[A2c,A2c],A1v _ _ _ _,rfl⟩) rfl
 rw[s0,s1]at this
 have e:renL σ [.row 2 0 ps.length 1,.ptr 0 0]=[.row k 0 ps.length 1,.ptr b 0]:=by simp[renL,ren,s0,s2]
 rw[e]at this;exact this
end
theorem C0s:∀ws:List (List UInt8),(jn ws).length<=(ws.map fun w=>w.length+1).sum
 | []=>by simp[jn]
 | [w]=>by simp[jn]
 | w::x::r=>by
  have ih:=C0s (x::r);rw[A9n];simp only[List.length_append,List.length_cons,List.map_cons,List.sum_cons]at ih ⊢;omega
theorem C5x {α β:Type} {f:α->List β} {K:Nat}:∀{l:List α},(∀x∈l,(f x).length<=K)->(l.flatMap f).length<=l.length*K
 | [],_=>by simp
 | a::l,h=>by
  have h1:=h a (by simp);have h2:=C5x (l:=l) fun x hx=>h x (by simp[hx]);rw[List.flatMap_cons,List.length_append,List.length_cons,Nat.add_mul];omega
theorem E4m {α:Type} {f:α->Nat} {K:Nat}:∀{l:List α},(∀x∈l,f x<=K)->(l.map f).sum<=l.length*K
 | [],_=>by simp
 | a::l,h=>by
  have h1:=h a (by simp);have h2:=E4m (l:=l) fun x hx=>h x (by simp[hx]);rw[List.map_cons,List.sum_cons,List.length_cons,Nat.add_mul];omega
theorem F5v (k:Nat):(kdN.getD k []).length<=5:=by
 match k with
 | 0 | 1 | 2 | 3=>decide
 | k+4=>exact Nat.zero_le _
theorem F5w (k:Nat):(stN.getD k []).length<=8:=by
 match k with
 | 0 | 1 | 2=>decide
 | k+3=>exact Nat.zero_le _
theorem C5y {s:ByteArray} (h:A0v false s=true):s.size<=32:=by
 unfold A0v at h;split at h
 ·cases h
 ·simp only[Bool.and_eq_true,decide_eq_true_eq]at h;exact h.1.1.1
theorem F2x {s:ByteArray} (h:A4q s=true):s.size<=32:=by
 unfold A4q at h;simp only[Bool.and_eq_true,decide_eq_true_eq]at h;exact h.1.2
theorem B1e (s:ByteArray):(lbs s).length=s.size:=rfl
theorem E4n {p:Pr} {n:Int} (h:chkP p n=0) (hn:n<=1000):(0<=p.kind/\p.kind<=3)/\p.name.size<=32/\(-9223372036854775808<=p.frm/\p.frm<=9223372036854775807)/\(-9223372036854775808<=p.to/\p.to<=9223372036854775807)/\(p.kind=3->p.name=⟨#[]⟩):=by
 obtain⟨kind,name,f,t⟩:=p;unfold chkP at h;split at h
 ·cases h
 rename_i h1;split at h
 ·cases h
 rename_i h2;split at h
 ·cases h
 rename_i h3;simp only[not_or,Int.not_lt]at h1 h3;simp only[not_or,not_and,Decidable.not_not,Bool.not_eq_false]at h2;refine⟨⟨by show 0<=kind;omega,by show kind<=3;omega⟩,?_,⟨by show _<=f;omega,by show f<=_;omega⟩,⟨by show _<=t;omega,by show t<=_;omega⟩,h2.1⟩;by_cases hk:kind=3
 ·have:name=⟨#[]⟩:=h2.1 hk;show name.size<=32;rw[this];decide
 ·exact C5y (h2.2 hk)
theorem F2y {d:Dc} {n:Int} (h:chkP d.p n=0) (hn:n<=1000):(lnD d).length<=200:=by
 obtain⟨_,h2,h3,h4,_⟩:=E4n h hn;have e1:=Lib.itoa_length_le d.p.frm h3.1 h3.2;have e2:=Lib.itoa_length_le d.p.to h4.1 h4.2;have e3:=F5v d.p.kind.toNat;have:=C0s [if d.yes then wYes else wNo,kdN.getD d.p.kind.toNat [],if d.p.kind=3 then [45]else lbs d.p.name,Lib.itoa d.p.frm,Lib.itoa d.p.to];unfold lnD
 have e4:(if d.yes then wYes else wNo).length<=3:=by split<;>decide
 have e5:(if d.p.kind=3 then [45]else lbs d.p.name).length<=32:=by split;decide;exact h2
 simp only[List.map_cons,List.map_nil,List.sum_cons,List.sum_nil]at this;omega
theorem C9n {x:It} (h:chkR x=0):x.decs.length<=256:=by
 unfold chkR at h;split at h
 ·rename_i h1;exact absurd h h1
 split at h
 ·cases h
 split at h
 ·cases h
 omega
theorem E8k {s:List UInt8} {d:Dv} (h:parD s = .ok d):s.length<=65536:=by
 unfold parD at h;split at h
 ·cases h
 ·omega
def i1 (x:It):List UInt8:=jn [A5m,lbs x.id,stN.getD x.state.toNat []]++[10]
def i2 (x:It):List UInt8:=jn [A3i,jn (x.words.map lbs)]++[10]
def i3 (ds:List Dc):List UInt8:=ds.flatMap fun d=>lnD d++[10]
def i4 (x:It):List UInt8:=if x.state=1 then jn [A8i,prtD x.gold]++[10]else []
def iAll (x:It):List UInt8:=i1 x++(i2 x++(i3 x.decs++i4 x))
theorem F2z (a b:List (List UInt8)):unl (a++b)=unl a++unl b:=by simp[unl]
theorem E8l (x:It):unl (lnsI x)=iAll x:=by
 unfold lnsI iAll i1 i2 i3 i4;simp only[unl,List.flatMap_cons,List.flatMap_append,List.flatMap_map];congr 1;congr 1;congr 1;split
 ·simp[jn]
 ·simp
theorem D5k (b:Tb):unl (lnsB b)=(jn [A1h,lbs b.ver]++[10])++b.items.flatMap iAll:=by
 unfold lnsB;rw[unl,List.flatMap_cons];congr 1;show unl (b.items.flatMap lnsI)=_
 induction b.items with
 | nil=>rfl
 | cons x r ih=>rw[List.flatMap_cons,F2z,E8l,ih,List.flatMap_cons]
theorem C9o {x:It} (hx:OkR x):(jn (x.words.map lbs)).length<=1100:=by
 have h1:=C0s (x.words.map lbs);rw[List.map_map]at h1
 have h2:=E4m (f:=(fun w=>w.length+1)∘lbs) (K:=33) (l:=x.words) fun w hw=>by
  have:=F2x (hx.words.2.2 w hw);show(lbs w).length+1<=33;rw[B1e];omega
 have h3:=hx.words.2.1;have h4:x.words.length*33<=32*33:=Nat.mul_le_mul_right _ h3;omega
theorem E8m {x:It} (hx:OkR x) (hid:A0v false x.id=true) (hd:x.decs.length<=256):(iAll x).length<=200000:=by
 have h1:=C0s [A5m,lbs x.id,stN.getD x.state.toNat []];have h2:=F5w x.state.toNat;have h3:=C5y hid;have h4:=C9o hx;have h5:=C0s [A3i,jn (x.words.map lbs)]
 have h6:(i3 x.decs).length<=x.decs.length*201:=C5x fun d hd'=>by
  have:=F2y (hx.decs d hd') (by have:=hx.words.2.1;omega);rw[List.length_append];simp only[List.length_singleton];omega
 have h7:(i4 x).length<=70000:=by
  unfold i4;split
  ·rename_i hs;have hg:=hx.gold;rw[if_pos hs]at hg;have:=E8k hg.1;have:=C0s [A8i,prtD x.gold];simp only[List.map_cons,List.map_nil,List.sum_cons,List.sum_nil]at this;rw[List.length_append];have e:A8i.length=4:=rfl;simp only[List.length_singleton];omega
  ·simp
 have e1:A5m.length=4:=rfl;have e2:A3i.length=5:=rfl;unfold iAll i1 i2;simp only[List.length_append,List.length_singleton,List.map_cons,List.map_nil,List.sum_cons,List.sum_nil,B1e]at *;have:x.decs.length*201<=256*201:=Nat.mul_le_mul_right _ hd;omega
theorem E8n {b:Tb} (h:chkT b=0):(unl (lnsB b)).length<=100000000:=by
 obtain⟨h1,h2,h3,_⟩:=D3z.1 h;have hl:=C0s [A1h,lbs b.ver];have hv:=C5y h1;have hf:(b.items.flatMap iAll).length<=b.items.length*200000:=C5x fun x hx=>E8m (D1c (h3 x hx).2) (h3 x hx).1 (C9n (h3 x hx).2);have e1:A1h.length=7:=rfl;rw[D5k];simp only[List.length_append,List.length_singleton,List.map_cons,List.map_nil,List.sum_cons,List.sum_nil,B1e]at *;have:b.items.length*200000<=256*200000:=Nat.mul_le_mul_right _ h2;omega
theorem D2f:A0z Tryz.prog (G q) 79 [] (· = slT eStr (stN.map bs)):=by
 refine B6k.call rfl ?_;(conv in A8p=>cbv);refine A0c A1b ?_;simp -implicitDefEqProofs;rfl
theorem D8n:A0z Tryz.prog (G q) 81 [] (· = slT eStr (kdN.map bs)):=by
 refine B7t.call rfl ?_;(conv in A9w=>cbv);refine A0c A1b ?_;simp -implicitDefEqProofs;rfl
def gSt:List T->Option T
 | []=>some (slT eStr (stN.map bs))
 | _=>none
theorem hSt:GOK Tryz.prog (G q) 79 gSt:=fun args r h=>by
 unfold gSt at h;split at h
 ·injection h with h;subst h;exact D2f
 ·cases h
def gKd:List T->Option T
 | []=>some (slT eStr (kdN.map bs))
 | _=>none
theorem hKd:GOK Tryz.prog (G q) 81 gKd:=fun args r h=>by
 unfold gKd at h;split at h
 ·injection h with h;subst h;exact D8n
 ·cases h
noncomputable def gTJ:List T->Option T:=g1 (tSl eStr) fun l=>if l.length<=1000/\(jn (l.map lbs)).length<=1000000000 then some (sv (bs (jn (l.map lbs))))else none
theorem hTJ:GOK Tryz.prog (G q) 80 gTJ:=A7r fun a l r ha hr=>by
 split at hr
 ·rename_i h;injection hr with hr;subst hr;have eJ:=E4i ha h.1 h.2;have eJ:gJo [a,.v (.string ⟨#[32]⟩)]=some (sv (bs (jn (l.map lbs)))):=eJ;refine C9e.runs ((A0x.cons (hJo (q:=q)) .nil).ctx mixed) rfl ?_
  (conv in B7o=>cbv);simp -implicitDefEqProofs [eJ]
 ·cases hr
theorem F5x {t:T} {l:List ByteArray} (ht:IsS eStr t l) (hl:l.length<=1000) (hd:(jn (l.map lbs)).length<=1000000000):gTJ [t]=some (sv (bs (jn (l.map lbs)))):=by
 show g1 _ _ _=_;rw[A7s (τ:=tSl eStr) ht,if_pos ⟨hl,hd⟩]
structure ES (H:Heap) (g:Nat) (p:PV) (A:List UInt8) (X:Row):Prop where
 r0:Abs.look H 0=some X
 r1:Abs.look H 1=some (bldR p g A)
 rg:A1e eB tyU H g A
 hp:p=pNil\/p = .ptr 1 0
section
variable {H : Heap} {g nx : Nat} {p : PV} {A m : List UInt8} {X : Row}
theorem ES.next (h:ES H g p A X) (g0:g≠0) (g1:g≠1) (hn:1<nx):ES (wsH H 1 g nx A m) nx (.ptr 1 0) m X where
 r0:=(B1u (by omega) (.inr (Ne.symm g0)) (by omega)).trans h.r0
 r1:=C3n h.r1 (by omega) (.inr (Ne.symm g1))
 rg:=C3o
 hp:=.inr rfl
theorem ES.keep {k:Nat} {R:Row} (h:Abs.look H k=some R) (k1:k≠1) (kg:k≠g) (kn:k≠nx):Abs.look (wsH H 1 g nx A m) k=some R:=(B1u k1 (.inr kg) kn).trans h
theorem ES.line {tp:T} {ps:List ByteArray} (h:ES H g p A X) (g0:g≠0) (g1:g≠1) (hn:1<nx) (hgn:g<nx) (ht:IsS eStr tp ps) (hl:ps.length<=1000) (hd:(lnB ps).length<=1000000000) (hlen:A.length<=1000000000) :
  ∃t H2,H2=wsH H 1 g nx A (A++lnB ps)/\ES H2 nx (.ptr 1 0) (A++lnB ps) X/\HOK Tryz.prog (G q) 76 t/\t [.t tp,.ptr 1 0] H nx=some (.t (.tu []),H2,nx+1):=by
 have hd':(jn (ps.map lbs)).length<=1000000000:=by unfold lnB at hd;rw[List.length_append]at hd;omega
 exact⟨_,_,rfl,h.next g0 g1 hn,F5u ht hl hd' h.r1 h.hp h.rg (by omega) (by omega) hgn g1,A2j _ _ _ _⟩
theorem ES.lineR {k:Nat} {ps:List ByteArray} (h:ES H g p A X) (hk:Abs.look H k=some (A1p eStr 9 ps)) (g0:g≠0) (g1:g≠1) (hn:1<nx) (hgn:g<nx) (hkn:k<nx) (hk1:k≠1) (hkg:k≠g) (hl:ps.length<=1000) (hd:(lnB ps).length<=1000000000) (hlen:A.length<=1000000000) :
  ∃t H2,H2=wsH H 1 g nx A (A++lnB ps)/\ES H2 nx (.ptr 1 0) (A++lnB ps) X/\HOK Tryz.prog (G q) 76 t/\t [.row k 0 ps.length 1,.ptr 1 0] H nx=some (.t (.tu []),H2,nx+1):=by
 have hd':(jn (ps.map lbs)).length<=1000000000:=by unfold lnB at hd;rw[List.length_append]at hd;omega
 exact⟨_,_,rfl,h.next g0 g1 hn,E4l hk hl hd' h.r1 h.hp h.rg (by omega) (by omega) hgn g1 hkn hk1 hkg,A2j _ _ _ _⟩
def canE (A:List UInt8) (R:Heap):Heap:=[(1,bldR (.ptr 1 0) 2 A)]++(rowH eB tyU 2 A++R)
theorem ES.can (A:List UInt8) (X:Row) (R:Heap):ES (canE A ((0,X)::R)) 2 (.ptr 1 0) A X:=by
 refine⟨?_,rfl,(A1e.head eB tyU ((0,X)::R) 2 A).cons (k:=1) (by omega),.inr rfl⟩;cases A<;>rfl
theorem E4o {A:List UInt8} {R:Heap} {k:Nat} (h1:k≠1) (h2:k≠2):Abs.look (canE A R) k=Abs.look R k:=by
 unfold canE;rw[List.singleton_append,look_cons,if_neg (Ne.symm h1),B6n h2]
theorem ES.sub (h:ES H g (.ptr 1 0) A X) (hg:2<=g) {nx':Nat} (hnx:3<=nx') {R:Heap} (hR:∀x∈R,Abs.look H x.1=some (A2u (fun x=>if x=2 then g else x) x.2)/\x.1<nx'/\x.1≠1/\x.1≠2/\x.1≠g/\A2a nx' x.2=true)
  {env env':List (Nat×PV)} {N:Nat} (he:∀x∈env',Abs.look env x.1=some (ren (fun x=>if x=2 then g else x) x.2)/\under nx' x.2=true) :
  Sub Tryz.prog (G q) 0 ⟨env,H,nx,N⟩ ⟨env',canE A R,nx',N⟩:=by
 have s1:(if(1:Nat)=2 then g else 1)=1:=if_neg (by omega);refine B3a (fun x=>if x=2 then g else x) rfl (by show 0<=nx';omega) (fun x hx=>by omega) he (fun x hx=>?_) (fun x hx y hy e=>?_)
 ·rcases List.mem_append.1 hx with hx | hx
  ·simp only[List.mem_singleton]at hx;subst hx;refine⟨?_,by show 1<nx';omega,?_⟩
   ·show Abs.look H (if(1:Nat)=2 then g else 1)=_;rw[s1,h.r1];simp only[bldR,A2u,renL,A7f,ren,s1,if_true]
   ·have:under nx' (.ptr 1 0)=true:=decide_eq_true (by omega);simp only[bldR,A2a,A1g,this,A4p _ _ _ _ (show 2<nx' by omega),Bool.and_self]
  ·rcases List.mem_append.1 hx with hx | hx
   ·obtain⟨hn,rfl⟩:=A5r hx;refine⟨?_,by show 2<nx';omega,A1v _ _ _ _⟩;show Abs.look H (if(2:Nat)=2 then g else 2)=_;rw[if_pos rfl,A2c];exact h.rg.resolve_left hn
   ·obtain⟨h1,h2,h3,h4,h5,h6⟩:=hR x hx;refine⟨?_,h2,h6⟩;show Abs.look H (if x.1=2 then g else x.1)=_;rw[if_neg h4];exact h1
 ·have cls:∀z,z∈[(1,bldR (.ptr 1 0) 2 A)]++(rowH eB tyU 2 A++R)->z.1=1\/z.1=2\/(z.1≠1/\z.1≠2/\z.1≠g):=fun z hz=>by
   rcases List.mem_append.1 hz with hz | hz
   ·simp only[List.mem_singleton]at hz;subst hz;exact .inl rfl
   ·rcases List.mem_append.1 hz with hz | hz
    ·obtain⟨_,rfl⟩:=A5r hz;exact .inr (.inl rfl)
    ·obtain⟨h1,h2,h3,h4,h5,h6⟩:=hR z hz;exact .inr (.inr ⟨h3,h4,h5⟩)
  have e:(if x.1=2 then g else x.1)=(if y.1=2 then g else y.1):=e;have cx:=cls x hx;have cy:=cls y hy;split at e<;>split at e<;>omega
end
theorem bsl2 (a b:ByteArray) (m:Nat):A5z 9 1 [.string ⟨#[]⟩] 2 [(0,.t (sv a)),(1,.t (sv b))] m=some (.row m 0 2 1,A1p eStr 9 [a,b]):=rfl
theorem tsl3 (a b c:ByteArray):A9b 9 1 [.string ⟨#[]⟩] 3 [(0,.t (sv a)),(1,.t (sv b)),(2,.t (sv c))]=some (.t (slT eStr [a,b,c])):=rfl
theorem tsl5 (a b c d e:ByteArray):A9b 9 1 [.string ⟨#[]⟩] 5 [(0,.t (sv a)),(1,.t (sv b)),(2,.t (sv c)),(3,.t (sv d)),(4,.t (sv e))]=some (.t (slT eStr [a,b,c,d,e])):=rfl
abbrev clE:PV:=.fn (.func 76) [] [.ptr 1 0]
def encR (b:Tb):T:=match encT b with
 | .error e=>.tu [sv ⟨#[]⟩,iv e]
 | .ok s=>.tu [sv (bs s),iv 0]
theorem F3a {ds:List Dc} {j:Nat} {d:Dc} (h:ds[j]?=some d):i3 (ds.drop j)=(lnD d++[10])++i3 (ds.drop (j+1)):=by
 unfold i3;rw[List.drop_eq_getElem_cons (List.getElem?_eq_some_iff.1 h).1,(List.getElem?_eq_some_iff.1 h).2,List.flatMap_cons]
theorem E4p {l:List It} {j:Nat} {x:It} (h:l[j]?=some x):(l.drop j).flatMap iAll=iAll x++(l.drop (j+1)).flatMap iAll:=by
 rw[List.drop_eq_getElem_cons (List.getElem?_eq_some_iff.1 h).1,(List.getElem?_eq_some_iff.1 h).2,List.flatMap_cons]
theorem lnB_D (d:Dc):lnB [if d.yes then bs wYes else bs wNo,bs (kdN.getD d.p.kind.toNat []),if d.p.kind=3 then bs [45]else d.p.name,bs (Lib.itoa d.p.frm),bs (Lib.itoa d.p.to)]=lnD d++[10]:=by
 unfold lnB lnD;simp only[List.map_cons,List.map_nil,A3j];congr 2;congr 1
 ·split<;>simp[A3j]
 ·congr 2;split<;>simp[A3j]
theorem lnB_1 (x:It):lnB [bs A5m,x.id,bs (stN.getD x.state.toNat [])]=i1 x:=by
 unfold lnB i1;simp only[List.map_cons,List.map_nil,A3j]
theorem lnB_2 (x:It):lnB [bs A3i,bs (jn (x.words.map lbs))]=i2 x:=by
 unfold lnB i2;simp only[List.map_cons,List.map_nil,A3j]
theorem lnB_4 (d:Dv):lnB [bs A8i,bs (prtD d)]=jn [A8i,prtD d]++[10]:=by
 unfold lnB;simp only[List.map_cons,List.map_nil,A3j]
theorem lnB_0 (v:ByteArray):lnB [bs A1h,v]=jn [A1h,lbs v]++[10]:=by
 unfold lnB;simp only[List.map_cons,List.map_nil,A3j]
theorem E8o (d:Dc) (R:Heap) (k:Nat):A0f false 1 ((k,A4t d)::R) (.ptr k 0)=some (.t (iv d.p.kind)):=by simp[A0f]
theorem E8p (d:Dc) (R:Heap) (k:Nat):A0f false 1 ((k,A4t d)::R) (.ptr k 1)=some (.t (sv d.p.name)):=by simp[A0f]
theorem E8q (d:Dc) (R:Heap) (k:Nat):A0f false 1 ((k,A4t d)::R) (.ptr k 2)=some (.t (iv d.p.frm)):=by simp[A0f]
theorem E8r (d:Dc) (R:Heap) (k:Nat):A0f false 1 ((k,A4t d)::R) (.ptr k 3)=some (.t (iv d.p.to)):=by simp[A0f]
theorem E8s (d:Dc) (R:Heap) (k:Nat):A0f false 1 ((k,A4t d)::R) (.ptr k 4)=some (.t (bv d.yes)):=by simp[A0f]
theorem E4q (d:Dc) (H:Heap) (k:Nat):A0r 5 ((k,Row.cells 61 [.t (.v (.int .i64 0)),.t (.v (.string ⟨#[]⟩)),.t (.v (.int .i64 0)),.t (.v (.int .i64 0)),.t (.v (.bool false))])::H) (.ptr k 0) (.t (.ag (eDc.enc d)))=some ((k,A4t d)::H):=by
 simp[A0r,A0y,A3h,eDc]
theorem ES.cons {H:Heap} {g:Nat} {p:PV} {A:List UInt8} {X:Row} (h:ES H g p A X) {k:Nat} {R:Row} (k0:k≠0) (k1:k≠1) (kg:k≠g):ES ((k,R)::H) g p A X where
 r0:=by rw[look_cons,if_neg k0];exact h.r0
 r1:=by rw[look_cons,if_neg k1];exact h.r1
 rg:=h.rg.cons kg
 hp:=h.hp
def SE1 (X:Row) (u:T) (n:Nat) (a:Nat×List UInt8):A0b:=⟨[(27,.t (iv (a.1:Int))),(26,.t (iv (n:Int))),(25,.t u),(6,clE),(5,.ptr 1 0)],canE a.2 [(0,X)],3,96⟩
def SE2 (X I:Row) (u td:T) (n j m:Nat) (a:Nat×List UInt8):A0b:=⟨[(50,.t (iv (a.1:Int))),(49,.t (iv (m:Int))),(48,.t td),(27,.t (iv (j:Int))),(26,.t (iv (n:Int))),(25,.t u),(8,.ptr 3 0),(6,clE),(5,.ptr 1 0)],canE a.2 [(0,X),(3,I)],4,96⟩
theorem C0t {ver:ByteArray} {u:T} {l:List IC} (hu:IsS eIC u l) (hs:SmB ver l):A0z Tryz.prog (G q) 47 [.ag [sv ver,u]] (· = encR ⟨ver,l.map IC.x⟩):=by
 have cd:A0y (.t (.ag [sv ver,u]))=some [.t (sv ver),.t u]:=rfl;have l1:=hu.len;have hll:=hs.len;have eC:=D1z hu hs
 obtain⟨P,hP⟩:∃P,P=encR ⟨ver,l.map IC.x⟩:=⟨_,rfl⟩
 rw[<-hP];unfold encR encT at hP
 obtain⟨X,hX⟩:∃X,X=bRow ver u:=⟨_,rfl⟩
 have hXc:∃(ty:Nat) (cs:List T),X = .cells ty (cs.map .t):=⟨_,[sv ver,u],hX⟩
 have z:=ldB (ver:=ver) (u:=u) (H:=[(0,X)]) (b:=0) (by rw[hX];rfl);have C:Ctx Tryz.prog (G q) _:=(A0x.cons (hChk (q:=q)) .nil).ctx mixed;refine B6i.call rfl ?_;(conv in A8n=>cbv);refine A0a C ?_;simp -implicitDefEqProofs [cd];rw[show Row.cells 39 [.t (sv ver),.t u]=X from hX.symm];by_cases h1:chkT ⟨ver,l.map IC.x⟩=0
 rotate_left
 ·rw[if_pos h1]at hP
  have hb:(chkT ⟨ver,l.map IC.x⟩ != 0)=true:=by simpa using h1
  refine A0a C ?_;simp -implicitDefEqProofs [z.a,eC,hb,hP]
 rw[if_neg (fun e=>e h1)]at hP;rw[h1]at eC;refine A0a C ?_;simp -implicitDefEqProofs [z.a,eC]
 obtain⟨E,hE⟩:∃E,E=unl (lnsB ⟨ver,l.map IC.x⟩):=⟨_,rfl⟩
 have hEl:=E8n h1;obtain⟨_,_,hit,_⟩:=D3z.1 h1;rw[<-hE]at hP hEl;rw[D5k]at hE
 have hE0:E=lnB [bs A1h,ver]++(l.map IC.x).flatMap iAll:=by rw[hE,lnB_0]
 refine A0a C ?_;simp -implicitDefEqProofs;refine A0a C ?_;have mk:exM (.mkf (.func 76) 0) [.ptr 1 0]=some clE:=rfl;simp -implicitDefEqProofs [mk]
 obtain⟨H1,hH1⟩:∃H1:Heap,H1=(2,A1p eStr 9 [bs A1h,ver])::[(1,bldR pNil 0 []),(0,X)]:=⟨_,rfl⟩
 have q1:Abs.look H1 1=some (bldR pNil 0 []):=by rw[hH1];rfl
 have q0:Abs.look H1 0=some X:=by rw[hH1];rfl
 have q2:Abs.look H1 2=some (A1p eStr 9 [bs A1h,ver]):=by rw[hH1];rfl
 have hEl0:(lnB [bs A1h,ver]).length<=100000000:=by have:=congrArg List.length hE0;rw[List.length_append]at this;omega
 have hd0:(jn ([bs A1h,ver].map lbs)).length<=1000000000:=by unfold lnB at hEl0;rw[List.length_append]at hEl0;omega
 have ok1:=E4l (q:=q) (nx:=3) (g:=0) (k:=2) q2 (by simp) hd0 q1 (.inl rfl) (.inl rfl) (by simp only[List.length_nil];omega) (by omega) (by omega) (by omega) (by omega) (by omega) (by omega);have e1:=A2j [.row 2 0 2 1,.ptr 1 0] H1 3 (.t (.tu []),wsH H1 1 0 3 [] ([]++lnB [bs A1h,ver]),4)
 obtain⟨A0,hA0⟩:∃A0,A0=lnB [bs A1h,ver]:=⟨_,rfl⟩
 have es1:ES (wsH H1 1 0 3 [] ([]++lnB [bs A1h,ver])) 3 (.ptr 1 0) A0 X:=by
  rw[hA0];exact⟨(B1u (by omega) (.inl rfl) (by omega)).trans q0,C3n q1 (by omega) (.inl rfl),C3o,.inr rfl⟩
 obtain⟨H2,hH2⟩:∃H2,H2=wsH H1 1 0 3 [] ([]++lnB [bs A1h,ver]):=⟨_,rfl⟩
 obtain⟨t1,o1,k1⟩:∃t1,t1 [.row 2 0 2 1,.ptr 1 0] H1 3=some (.t (.tu []),H2,4)/\HOK Tryz.prog (G q) 76 t1:=⟨_,by rw[hH2];exact e1,ok1⟩
 rw[<-hH2]at es1;have C1:Ctx Tryz.prog (G q) _:=A0x.nil.ctxH (A1s.cons k1 .nil) mixed;have bs0:A5z 9 1 [.string ⟨#[]⟩] 2 [(0,.t (.v (.string ⟨#[118,101,114,115,105,111,110]⟩))),(1,.t (sv ver))] 2=some (.row 2 0 2 1,A1p eStr 9 [bs A1h,ver]):=bsl2 (bs A1h) ver 2
 have zb:∀Y,A0f false 1 [(1,Y),(0,X)] (.ptr 0 0)=some (.t (sv ver)):=fun Y=>by rw[hX];rfl
 have hH1':(2,A1p eStr 9 [bs A1h,ver])::[(1,Row.cells 101 [.t (.v (.pointer none)),.t (.v (.slice none 0 0))]),(0,X)]=H1:=hH1.symm;refine A0a C1 ?_;simp -implicitDefEqProofs [zb,bs0,hH1',o1];refine A1f (α:=Unit) (fun _=>⟨[(5,.ptr 1 0)],canE E [(0,X)],3,96⟩) (fun _=>True) (fun _=>rfl) ?_ ?_
 ·have l25:A0f false 1 H2 (.ptr 0 1)=some (.t u):=by simp only[A0f,es1.r0];rw[hX];rfl
  refine A0a C ?_;simp -implicitDefEqProofs [l25,l1];refine A0n ?_;refine A1a (SE1 X u l.length) (fun a=>l.length-a.1) (fun a=>a.1<=l.length/\a.2++((l.map IC.x).drop a.1).flatMap iAll=E) (0,A0) (fun _=>rfl) ⟨Nat.zero_le _,by rw[hE0,hA0];rfl⟩ ?_ rfl ?_
  ·refine es1.sub (by omega) (by omega) (fun x hx=>?_) ?_
   ·simp only[List.mem_singleton]at hx;subst hx;obtain⟨ty,cs,hc⟩:=hXc;exact⟨by rw[es1.r0,hc];simp[A2u,C3g],by show 0<3;omega,by show 0≠1;omega,by show 0≠2;omega,by show 0≠3;omega,by rw[hc];exact A2b _ _⟩
   ·simp -implicitDefEqProofs [SE1,ren,renL,under,A1g]
  rintro⟨j,A⟩ ⟨hj,heq⟩;simp only at hj heq;by_cases hlt:j<l.length
  ·obtain⟨c,hc⟩:∃c,l[j]?=some c:=⟨_,List.getElem?_eq_getElem hlt⟩
   obtain⟨pp,ia,ld9,_⟩:=C9f hu hc
   have hcx:(l.map IC.x)[j]?=some c.x:=by rw[List.getElem?_map,hc];rfl
   obtain⟨hidn,hck⟩:=hit c.x (List.mem_of_getElem? hcx);have ok:=D1c hck;have hdl:=C9n hck;have hsc:=hs.items c (List.mem_of_getElem? hc);have ej:IntKind.i64.wrap ((j:Int)+1)=((j+1:Nat):Int):=A0p (by omega) (by omega);rw[E4p hcx]at heq
   have hAl:A.length+(iAll c.x).length<=100000000:=by have:=congrArg List.length heq;simp only[List.length_append]at this;omega
   obtain⟨tw,td,k,nm,f,t,tk,ks,ecs,hg,hk,hw,hd,hgD⟩:=A3f c.ok;rw[ecs]at ld9
   obtain⟨I,hI⟩:∃I,I=iRow c.x.id tw c.x.state td k nm f t tk:=⟨_,rfl⟩
   have hIc:∃(ty:Nat) (cs:List T),I = .cells ty (cs.map .t):=⟨_,[sv c.x.id,tw,iv c.x.state,td,iv k,sv nm,iv f,iv t,tk],hI⟩
   have s3:=sI9 c.x.id tw c.x.state td k nm f t tk (canE A [(0,X)]) 3 [.t (.v (.string ⟨#[]⟩)),.t (.v (.slice none 0 0)),.t (.v (.int .i64 0)),.t (.v (.slice none 0 0)),.t (.v (.int .i64 0)),.t (.v (.string ⟨#[]⟩)),.t (.v (.int .i64 0)),.t (.v (.int .i64 0)),.t (.v (.slice none 0 0))] rfl;have es0:=(ES.can A X []).cons (k:=3) (R:=I) (by omega) (by omega) (by omega)
   obtain⟨Ha,hHa⟩:∃Ha:Heap,Ha=(3,I)::canE A [(0,X)]:=⟨_,rfl⟩
   rw[<-hI,<-hHa]at s3;rw[<-hHa]at es0
   have ra3:Abs.look Ha 3=some I:=by rw[hHa];rfl
   have za:=ldI c.x.id tw c.x.state td k nm f t tk (H:=Ha) (b:=3) (by rw[ra3,hI])
   obtain⟨st,hst⟩:∃st:Nat,c.x.state=(st:Int):=⟨c.x.state.toNat,by have:=ok.state;omega⟩
   have hst2:st<=2:=by have:=ok.state;omega
   have hstn:c.x.state.toNat=st:=by rw[hst];rfl
   obtain⟨sn,hsn,hsn2⟩:∃sn,(stN.map bs)[st]?=some sn/\sn=bs (stN.getD st []):=by
    have:st=0\/st=1\/st=2:=by omega
    rcases this with rfl | rfl | rfl<;>exact⟨_,rfl,rfl⟩
   have iS:A1c 1 (.t (slT eStr (stN.map bs))) (.t (iv (st:Int)))=_:=(IsS.mk (e:=eStr) (stN.map bs)).iaddr hsn .i64;have ldS:∀H,A0f false 1 H (.t (.pt (eStr.enc sn++rest eStr (stN.map bs) st)))=some (.t (sv sn)):=fun _=>rfl;have eSt:gSt []=some (slT eStr (stN.map bs)):=rfl
   have hw1:(iAll c.x).length=(i1 c.x).length+((i2 c.x).length+((i3 c.x.decs).length+(i4 c.x).length)):=by unfold iAll;simp only[List.length_append]
   have hl1:lnB [bs A5m,c.x.id,sn]=i1 c.x:=by rw[hsn2,<-hstn];exact lnB_1 c.x
   have hl2:=lnB_2 c.x;obtain⟨t1,Hb,hHb,es1,ok1,o1⟩:=es0.line (q:=q) (nx:=4) (tp:=slT eStr [bs A5m,c.x.id,sn]) (ps:=[bs A5m,c.x.id,sn]) (by omega) (by omega) (by omega) (by omega) (IsS.mk _) (by simp) (by rw[hl1];omega) (by omega);rw[hl1]at es1
   have rb3:Abs.look Hb 3=some I:=by rw[hHb];exact ES.keep ra3 (by omega) (by omega) (by omega)
   have zb:=ldI c.x.id tw c.x.state td k nm f t tk (H:=Hb) (b:=3) (by rw[rb3,hI]);have ts1:A9b 9 1 [.string ⟨#[]⟩] 3 [(0,.t (.v (.string ⟨#[105,116,101,109]⟩))),(1,.t (sv c.x.id)),(2,.t (sv sn))]=some (.t (slT eStr [bs A5m,c.x.id,sn])):=tsl3 _ _ _
   obtain⟨T1,hT1⟩:∃T1,T1=slT eStr [bs A5m,c.x.id,sn]:=⟨_,rfl⟩
   rw[<-hT1]at ts1 o1
   obtain⟨TS,hTS⟩:∃TS,TS=slT eStr (stN.map bs):=⟨_,rfl⟩
   rw[<-hTS]at iS eSt;have hwl:=C9o ok
   obtain⟨W,hW⟩:∃W,W=bs (jn (c.x.words.map lbs)):=⟨_,rfl⟩
   rw[<-hW]at hl2;have eTJ:=F5x hw (by have:=ok.words.2.1;omega) (by omega:(jn (c.x.words.map lbs)).length<=1000000000);rw[<-hW]at eTJ
   obtain⟨Hc,hHc⟩:∃Hc:Heap,Hc=(5,A1p eStr 9 [bs A3i,W])::Hb:=⟨_,rfl⟩
   have es1':=es1.cons (k:=5) (R:=A1p eStr 9 [bs A3i,W]) (by omega) (by omega) (by omega);rw[<-hHc]at es1'
   have rc5:Abs.look Hc 5=some (A1p eStr 9 [bs A3i,W]):=by rw[hHc];rfl
   have rc3:Abs.look Hc 3=some I:=by rw[hHc];exact rb3
   obtain⟨t2,Hd,hHd,es2,ok2,o2⟩:=es1'.lineR (q:=q) (nx:=6) (k:=5) (ps:=[bs A3i,W]) rc5 (by omega) (by omega) (by omega) (by omega) (by omega) (by omega) (by omega) (by simp) (by rw[hl2];omega) (by rw[List.length_append];omega);rw[hl2]at es2
   have rd3:Abs.look Hd 3=some I:=by rw[hHd];exact ES.keep rc3 (by omega) (by omega) (by omega)
   have zd:=ldI c.x.id tw c.x.state td k nm f t tk (H:=Hd) (b:=3) (by rw[rd3,hI]);have bs2:A5z 9 1 [.string ⟨#[]⟩] 2 [(0,.t (.v (.string ⟨#[119,111,114,100,115]⟩))),(1,.t (sv W))] 5=some (.row 5 0 2 1,A1p eStr 9 [bs A3i,W]):=bsl2 _ _ _;have o2:t2 [.row 5 0 2 1,.ptr 1 0] Hc 6=some (.t (.tu []),Hd,7):=o2;have CA:Ctx Tryz.prog (G q) _:=(A0x.cons (hSt (q:=q)) .nil).ctxH (A1s.cons ok1 .nil) mixed;have CB:Ctx Tryz.prog (G q) _:=(A0x.cons (hTJ (q:=q)) .nil).ctxH (A1s.cons ok2 .nil) mixed;have ldd:=hd.len;rw[hst]at s3 ld9
   have zal2:A0f false 1 Ha (.ptr 3 2)=some (.t (iv (st:Int))):=by rw[<-hst];exact za.l2
   unfold SE1;refine A0a C ?_;simp -implicitDefEqProofs [hlt];refine A3m ?_;refine A0c C ?_;simp -implicitDefEqProofs;refine⟨rfl,?_⟩;refine A3m ?_;refine A0n ?_;refine A0a C ?_;simp -implicitDefEqProofs [ia,ld9,s3];refine A0a CA ?_;simp -implicitDefEqProofs [za.l0,zal2,eSt,iS,ldS,ts1,o1];refine A0a CB ?_;simp -implicitDefEqProofs [zb.l1,eTJ,bs2,<-hHc,o2]
   obtain⟨A2,hA2⟩:∃A2,A2=A++i1 c.x++i2 c.x:=⟨_,rfl⟩
   rw[<-hA2]at es2
   have hA2l:A2.length+((i3 c.x.decs).length+(i4 c.x).length)<=100000000:=by rw[hA2,List.length_append,List.length_append];omega
   obtain⟨A3,hA3⟩:∃A3,A3=A2++i3 c.x.decs:=⟨_,rfl⟩
   have hA3l:A3.length+(i4 c.x).length<=100000000:=by rw[hA3,List.length_append];omega
   have subI:∀{H:Heap} {g:Nat} {nx:Nat} {B:List UInt8},ES H g (.ptr 1 0) B X->Abs.look H 3=some I->4<=g->∀{env env':List (Nat×PV)},(∀x∈env',Abs.look env x.1=some (ren (fun x=>if x=2 then g else x) x.2)/\under 4 x.2=true)->Sub Tryz.prog (G q) 0 ⟨env,H,nx,96⟩ ⟨env',canE B [(0,X),(3,I)],4,96⟩:=fun {H g nx B} h h3 hg {env env'} he=>by
    refine h.sub (by omega) (by omega) (fun x hx=>?_) he;simp only[List.mem_cons,List.not_mem_nil,or_false]at hx;rcases hx with rfl | rfl
    ·obtain⟨ty,cs,hc⟩:=hXc;exact⟨by rw[h.r0,hc];simp[A2u,C3g],by show 0<4;omega,by show 0≠1;omega,by show 0≠2;omega,by show 0≠g;omega,by rw[hc];exact A2b _ _⟩
    ·obtain⟨ty,cs,hc⟩:=hIc;exact⟨by rw[h3,hc];simp[A2u,C3g],by show 3<4;omega,by show 3≠1;omega,by show 3≠2;omega,by show 3≠g;omega,by rw[hc];exact A2b _ _⟩
   have lk3:∀B,Abs.look (canE B [(0,X),(3,I)]) 3=some I:=fun B=>by rw[E4o (by omega) (by omega)];rfl
   refine A1f (α:=Unit) (fun _=>⟨[(27,.t (iv (j:Int))),(26,.t (iv (l.length:Int))),(25,.t u),(8,.ptr 3 0),(6,clE),(5,.ptr 1 0)],canE A3 [(0,X),(3,I)],4,96⟩) (fun _=>True) (fun _=>rfl) ?_ ?_
   ·refine A0a C ?_;simp -implicitDefEqProofs [zd.l3,ldd];refine A0n ?_;refine A1a (SE2 X I u td l.length j c.x.decs.length) (fun a=>c.x.decs.length-a.1) (fun a=>a.1<=c.x.decs.length/\a.2++i3 (c.x.decs.drop a.1)=A3) (0,A2) (fun _=>rfl) ⟨Nat.zero_le _,by rw[hA3];rfl⟩ ?_ rfl ?_
    ·refine subI es2 rd3 (by omega) ?_;simp -implicitDefEqProofs [SE2,ren,renL,under,A1g]
    rintro⟨i,B⟩ ⟨hi,heq2⟩;simp only at hi heq2;by_cases hlt2:i<c.x.decs.length
    ·obtain⟨d,hdx⟩:∃d,c.x.decs[i]?=some d:=⟨_,List.getElem?_eq_getElem hlt2⟩
     obtain⟨p5,i5,ld5,_,_⟩:=E3l hd hdx;obtain⟨⟨k0,k3⟩,_,cf,ct,_⟩:=E4n (ok.decs d (List.mem_of_getElem? hdx)) (by have:=ok.words.2.1;omega);rw[F3a hdx]at heq2
     have hBl:B.length+(lnD d++[10]).length<=100000000:=by have:=congrArg List.length heq2;simp only[List.length_append]at this ⊢;omega
     have ei:IntKind.i64.wrap ((i:Int)+1)=((i+1:Nat):Int):=A0p (by omega) (by omega);have st4:=E4q d (canE B [(0,X),(3,I)]) 4;have esf:=(ES.can B X [(3,I)]).cons (k:=4) (R:=A4t d) (by omega) (by omega) (by omega)
     obtain⟨Hf,hHf⟩:∃Hf:Heap,Hf=(4,A4t d)::canE B [(0,X),(3,I)]:=⟨_,rfl⟩
     have m0:=E8o d (canE B [(0,X),(3,I)]) 4;have m1:=E8p d (canE B [(0,X),(3,I)]) 4;have m2:=E8q d (canE B [(0,X),(3,I)]) 4;have m3:=E8r d (canE B [(0,X),(3,I)]) 4;have m4:=E8s d (canE B [(0,X),(3,I)]) 4;rw[<-hHf]at st4 esf m0 m1 m2 m3 m4
     have rf3:Abs.look Hf 3=some I:=by rw[hHf,look_cons,if_neg (by omega)];exact lk3 B
     obtain⟨kd,hkd⟩:∃kd:Nat,d.p.kind=(kd:Int):=⟨d.p.kind.toNat,by omega⟩
     have hkd3:kd<=3:=by omega
     have hkdn:d.p.kind.toNat=kd:=by rw[hkd];rfl
     obtain⟨kn,hkn,hkn2⟩:∃kn,(kdN.map bs)[kd]?=some kn/\kn=bs (kdN.getD kd []):=by
      have:kd=0\/kd=1\/kd=2\/kd=3:=by omega
      rcases this with rfl | rfl | rfl | rfl<;>exact⟨_,rfl,rfl⟩
     have iK:A1c 1 (.t (slT eStr (kdN.map bs))) (.t (iv (kd:Int)))=_:=(IsS.mk (e:=eStr) (kdN.map bs)).iaddr hkn .i64;have ldK:∀H,A0f false 1 H (.t (.pt (eStr.enc kn++rest eStr (kdN.map bs) kd)))=some (.t (sv kn)):=fun _=>rfl;have eKd:gKd []=some (slT eStr (kdN.map bs)):=rfl
     obtain⟨TK,hTK⟩:∃TK,TK=slT eStr (kdN.map bs):=⟨_,rfl⟩
     rw[<-hTK]at iK eKd;have d1:=D4h cf;have d2:=D4h ct
     obtain⟨yw,hyw⟩:∃yw,yw=if d.yes then bs wYes else bs wNo:=⟨_,rfl⟩
     obtain⟨nw,hnw⟩:∃nw,nw=if d.p.kind=3 then bs [45]else d.p.name:=⟨_,rfl⟩
     have hl5:lnB [yw,kn,nw,bs (Lib.itoa d.p.frm),bs (Lib.itoa d.p.to)]=lnD d++[10]:=by rw[hyw,hnw,hkn2,<-hkdn];exact lnB_D d
     have ts5:=tsl5 yw kn nw (bs (Lib.itoa d.p.frm)) (bs (Lib.itoa d.p.to));obtain⟨t5,Hg,hHg,esg,ok5,o5⟩:=esf.line (q:=q) (nx:=5) (tp:=slT eStr [yw,kn,nw,bs (Lib.itoa d.p.frm),bs (Lib.itoa d.p.to)]) (ps:=[yw,kn,nw,bs (Lib.itoa d.p.frm),bs (Lib.itoa d.p.to)]) (by omega) (by omega) (by omega) (by omega) (IsS.mk _) (by simp) (by rw[hl5];omega) (by omega);rw[hl5]at esg
     have rg3:Abs.look Hg 3=some I:=by rw[hHg];exact ES.keep rf3 (by omega) (by omega) (by omega)
     obtain⟨T5,hT5⟩:∃T5,T5=slT eStr [yw,kn,nw,bs (Lib.itoa d.p.frm),bs (Lib.itoa d.p.to)]:=⟨_,rfl⟩
     rw[<-hT5]at ts5 o5;generalize bs (Lib.itoa d.p.frm)=fw at *;generalize bs (Lib.itoa d.p.to)=tw' at *
     have m0:A0f false 1 Hf (.ptr 4 0)=some (.t (iv (kd:Int))):=by rw[<-hkd];exact m0
     have C5:Ctx Tryz.prog (G q) _:=(A0x.cons (hKd (q:=q)) (.cons (hDe (q:=q)) .nil)).ctxH (A1s.cons ok5 .nil) mixed;unfold SE2;refine A0c C5 ?_
     cases hy:d.yes with
     | true=>
      rw[hy]at hyw m4;have hyw:yw=⟨#[121,101,115]⟩:=hyw;subst hyw;by_cases h3:kd=3
      ·subst h3
       have hnw:nw=⟨#[45]⟩:=by rw[hnw];exact if_pos hkd
       subst hnw;have iK:A1c 1 (.t TK) (.t (.v (.int .i64 3)))=_:=iK;simp -implicitDefEqProofs [hlt2,i5,ld5,st4,m0,m1,m2,m3,m4,eKd,iK,ldK,d1,d2,ts5,o5,ei];refine Abs.Next.mk (i+1,B++(lnD d++[10])) ⟨⟨by show i+1<=_;omega,by show B++(lnD d++[10])++_=A3;rw[List.append_assoc];exact heq2⟩,by show c.x.decs.length-(i+1)<c.x.decs.length-i;omega⟩ ?_;refine subI esg rg3 (by omega) ?_;simp -implicitDefEqProofs [ren,renL,under,A1g]
      ·have hb3:((kd:Int)==3)=false:=by simpa using (by omega:¬(kd:Int)=3)
       have hnw:nw=d.p.name:=by rw[hnw,if_neg (by omega)]
       subst hnw;simp -implicitDefEqProofs [hlt2,i5,ld5,st4,m0,m1,m2,m3,m4,hb3,eKd,iK,ldK,d1,d2,ts5,o5,ei];refine Abs.Next.mk (i+1,B++(lnD d++[10])) ⟨⟨by show i+1<=_;omega,by show B++(lnD d++[10])++_=A3;rw[List.append_assoc];exact heq2⟩,by show c.x.decs.length-(i+1)<c.x.decs.length-i;omega⟩ ?_;refine subI esg rg3 (by omega) ?_;simp -implicitDefEqProofs [ren,renL,under,A1g]
     | false=>
      rw[hy]at hyw m4;have hyw:yw=⟨#[110,111]⟩:=hyw;subst hyw;by_cases h3:kd=3
      ·subst h3
       have hnw:nw=⟨#[45]⟩:=by rw[hnw];exact if_pos hkd
       subst hnw;have iK:A1c 1 (.t TK) (.t (.v (.int .i64 3)))=_:=iK;simp -implicitDefEqProofs [hlt2,i5,ld5,st4,m0,m1,m2,m3,m4,eKd,iK,ldK,d1,d2,ts5,o5,ei];refine Abs.Next.mk (i+1,B++(lnD d++[10])) ⟨⟨by show i+1<=_;omega,by show B++(lnD d++[10])++_=A3;rw[List.append_assoc];exact heq2⟩,by show c.x.decs.length-(i+1)<c.x.decs.length-i;omega⟩ ?_;refine subI esg rg3 (by omega) ?_;simp -implicitDefEqProofs [ren,renL,under,A1g]
      ·have hb3:((kd:Int)==3)=false:=by simpa using (by omega:¬(kd:Int)=3)
       have hnw:nw=d.p.name:=by rw[hnw,if_neg (by omega)]
       subst hnw;simp -implicitDefEqProofs [hlt2,i5,ld5,st4,m0,m1,m2,m3,m4,hb3,eKd,iK,ldK,d1,d2,ts5,o5,ei];refine Abs.Next.mk (i+1,B++(lnD d++[10])) ⟨⟨by show i+1<=_;omega,by show B++(lnD d++[10])++_=A3;rw[List.append_assoc];exact heq2⟩,by show c.x.decs.length-(i+1)<c.x.decs.length-i;omega⟩ ?_;refine subI esg rg3 (by omega) ?_;simp -implicitDefEqProofs [ren,renL,under,A1g]
    ·rw[List.drop_of_length_le (by omega)]at heq2
     have hBA:B=A3:=by rw[<-heq2];simp[i3]
     subst hBA;refine A0c C ?_;simp -implicitDefEqProofs [SE2,hlt2];exact Abs.Next.mk () trivial (A0e (by simp -implicitDefEqProofs))
   rintro _ _;have q5:=ES.can A3 X [(3,I)];have rq3:=lk3 A3
   obtain⟨Hk,hHk⟩:∃Hk,Hk=canE A3 [(0,X),(3,I)]:=⟨_,rfl⟩
   rw[<-hHk]at q5 rq3;have zk:=ldI c.x.id tw c.x.state td k nm f t tk (H:=Hk) (b:=3) (by rw[rq3,hI])
   have zk2:A0f false 1 Hk (.ptr 3 2)=some (.t (iv (st:Int))):=by rw[<-hst];exact zk.l2
   have subX:∀{H:Heap} {g:Nat} {nx:Nat} {B:List UInt8},ES H g (.ptr 1 0) B X->2<=g->∀{env env':List (Nat×PV)},(∀x∈env',Abs.look env x.1=some (ren (fun x=>if x=2 then g else x) x.2)/\under 3 x.2=true)->Sub Tryz.prog (G q) 0 ⟨env,H,nx,96⟩ ⟨env',canE B [(0,X)],3,96⟩:=fun {H g nx B} h hg {env env'} he=>by
    refine h.sub hg (by omega) (fun x hx=>?_) he;simp only[List.mem_singleton]at hx;subst hx;obtain⟨ty,cs,hc⟩:=hXc;exact⟨by rw[h.r0,hc];simp[A2u,C3g],by show 0<3;omega,by show 0≠1;omega,by show 0≠2;omega,by show 0≠g;omega,by rw[hc];exact A2b _ _⟩
   have hsum:A3++i4 c.x=A++iAll c.x:=by rw[hA3,hA2];unfold iAll;simp only[List.append_assoc]
   rw[<-hHk];by_cases h1:st=1
   ·subst h1;have hs1:c.x.state=1:=hst;have hi4:i4 c.x=jn [A8i,prtD c.x.gold]++[10]:=if_pos hs1;have eP:=D5b hgD hsc.gold
    obtain⟨W4,hW4⟩:∃W4,W4=bs (prtD c.x.gold):=⟨_,rfl⟩
    have hl4:=lnB_4 c.x.gold;rw[<-hi4,<-hW4]at hl4;rw[<-hW4]at eP
    obtain⟨Hm,hHm⟩:∃Hm:Heap,Hm=(4,A1p eStr 9 [bs A8i,W4])::Hk:=⟨_,rfl⟩
    have esm:=q5.cons (k:=4) (R:=A1p eStr 9 [bs A8i,W4]) (by omega) (by omega) (by omega);rw[<-hHm]at esm
    have rm4:Abs.look Hm 4=some (A1p eStr 9 [bs A8i,W4]):=by rw[hHm];rfl
    obtain⟨t6,Hn,hHn,es6,ok6,o6⟩:=esm.lineR (q:=q) (nx:=5) (k:=4) (ps:=[bs A8i,W4]) rm4 (by omega) (by omega) (by omega) (by omega) (by omega) (by omega) (by omega) (by simp) (by rw[hl4];omega) (by omega);rw[hl4,hsum]at es6;have bs4:A5z 9 1 [.string ⟨#[]⟩] 2 [(0,.t (.v (.string ⟨#[103,111,108,100]⟩))),(1,.t (sv W4))] 4=some (.row 4 0 2 1,A1p eStr 9 [bs A8i,W4]):=bsl2 _ _ _;have o6:t6 [.row 4 0 2 1,.ptr 1 0] Hm 5=some (.t (.tu []),Hn,6):=o6;have zk2:A0f false 1 Hk (.ptr 3 2)=some (.t (.v (.int .i64 1))):=zk2;have C6:Ctx Tryz.prog (G q) _:=(A0x.cons (F5i (q:=q)) .nil).ctxH (A1s.cons ok6 .nil) mixed;refine A0c C6 ?_;simp -implicitDefEqProofs [zk2,zk.g,eP,bs4,<-hHm,o6];refine⟨rfl,?_⟩;refine A0c C ?_;simp -implicitDefEqProofs [ej];refine Abs.Next.mk (j+1,A++iAll c.x) ⟨⟨by show j+1<=_;omega,by show A++iAll c.x++_=E;rw[List.append_assoc];exact heq⟩,by show l.length-(j+1)<l.length-j;omega⟩ ?_;refine subX es6 (by omega) ?_;simp -implicitDefEqProofs [SE1,ren,renL,under,A1g]
   ·have hb:((st:Int)==1)=false:=by simpa using (by omega:¬(st:Int)=1)
    have hi4:i4 c.x=[]:=if_neg (by omega);rw[hi4,List.append_nil]at hsum;rw[hsum]at q5;refine A0c C ?_;simp -implicitDefEqProofs [zk2,hb];refine⟨rfl,?_⟩;refine A0c C ?_;simp -implicitDefEqProofs [ej];refine Abs.Next.mk (j+1,A++iAll c.x) ⟨⟨by show j+1<=_;omega,by show A++iAll c.x++_=E;rw[List.append_assoc];exact heq⟩,by show l.length-(j+1)<l.length-j;omega⟩ ?_;refine subX q5 (by omega) ?_;simp -implicitDefEqProofs [SE1,ren,renL,under,A1g]
  ·rw[List.drop_of_length_le (by rw[List.length_map];omega)]at heq
   have hAE:A=E:=by rw[<-heq];simp
   subst hAE;refine A0c C ?_;simp -implicitDefEqProofs [SE1,hlt];exact Abs.Next.mk () trivial (A0e (by simp -implicitDefEqProofs))
 rintro _ _;have q4:=ES.can E X []
 have hne:E≠[]:=by rw[hE0];simp[lnB]
 obtain⟨H9,hH9⟩:∃H9,H9=canE E [(0,X)]:=⟨_,rfl⟩
 rw[<-hH9]at q4 ⊢;have c84:=E7r (q:=q) (nx:=3) q4.r1 q4.rg;have c85:=D5a (q:=q) (nx:=3) q4.r1 q4.rg hne (by omega)
 obtain⟨t84,e84,hok84⟩:∃t,t [.ptr 1 0] H9 3=some (.t (iv (E.length:Int)),H9,3)/\HOK Tryz.prog (G q) 84 t:=⟨_,A2j _ _ _ _,A2x c84 fun h=>h⟩
 obtain⟨t85,e85,hok85⟩:∃t,t [.ptr 1 0] H9 3=some (.t (sv (bs E)),rem H9 2,3)/\HOK Tryz.prog (G q) 85 t:=⟨_,A2j _ _ _ _,A2x c85 fun h k x hk=>by
  rw[A2f]at hk;split at hk
  ·cases hk
  ·exact h k x hk⟩
 have C9:Ctx Tryz.prog (G q) _:=A0x.nil.ctxH (A1s.cons hok84 (A1s.cons hok85 .nil)) mixed;by_cases h5:65536<E.length
 ·rw[if_pos h5]at hP
  have b5:decide ((65536:Int)<(E.length:Int))=true:=by simpa using (by omega:(65536:Int)<(E.length:Int))
  refine A0a C9 ?_;simp -implicitDefEqProofs [e84,b5,hP]
 ·rw[if_neg h5]at hP
  have b5:decide ((65536:Int)<(E.length:Int))=false:=by simpa using (by omega:(E.length:Int)<=65536)
  refine A0a C9 ?_;simp -implicitDefEqProofs [e84,b5];refine A0c C9 ?_;simp -implicitDefEqProofs [e85,hP]
noncomputable def gEnc:List T->Option T:=g1 tTb fun b=>open Classical in if SmB b.ver b.items then some (encR b.tb)else none
theorem F3b {F:Nat} (H:∀{ver:ByteArray} {u:T} {l:List IC},IsS eIC u l->SmB ver l->A0z Tryz.prog (G q) F [.ag [sv ver,u]] (· = encR ⟨ver,l.map IC.x⟩)):GOK Tryz.prog (G q) F gEnc:=A7r fun a b r ha hr=>by
 split at hr
 ·rename_i h;injection hr with hr;subst hr;obtain⟨u,rfl,hu⟩:=ha;exact H hu h
 ·cases hr
theorem hEnc:GOK Tryz.prog (G q) 47 gEnc:=F3b C0t
theorem F3c {ver:ByteArray} {u:T} {l:List IC} (hu:IsS eIC u l) (hs:SmB ver l):gEnc [.ag [sv ver,u]]=some (encR ⟨ver,l.map IC.x⟩):=by
 show g1 _ _ _=_;rw[A7s (τ:=tTb) (x:=⟨ver,l⟩) ⟨u,rfl,hu⟩,if_pos hs];rfl
def ltW (ws:List ByteArray):Bool:=!decide (60<ws.length)&&ws.all fun w=>!decide (100<w.size)
def SLw (t:T) (j:Nat):A0b:=⟨[(3,.t (iv (j:Int))),(0,.t t)],[],0,19⟩
theorem C5z {α:Type} {p:α->Bool} {l:List α} {j:Nat} {x:α} (h:l[j]?=some x):(l.drop j).all p=(p x&&(l.drop (j+1)).all p):=by
 rw[List.drop_eq_getElem_cons (List.getElem?_eq_some_iff.1 h).1,(List.getElem?_eq_some_iff.1 h).2,List.all_cons]
theorem E8t {t:T} {ws:List ByteArray} (ht:IsS eStr t ws) (hl:ws.length<=2000000):A0z Tryz.prog (G q) 70 [t] (· = bv (ltW ws)):=by
 have l1:=ht.len
 obtain⟨R,hR⟩:∃R,R=ltW ws:=⟨_,rfl⟩
 rw[<-hR];unfold ltW at hR;refine D1v.call rfl ?_;(conv in C0h=>cbv);refine A0a A1b ?_;simp -implicitDefEqProofs;by_cases h0:60<ws.length
 ·have hb:(60:Int)<(ws.length:Int):=by omega
  rw[decide_eq_true h0,Bool.not_true,Bool.false_and]at hR;subst hR;refine A0a A1b ?_;simp -implicitDefEqProofs [l1,hb]
 ·have hb:¬(60:Int)<(ws.length:Int):=by omega
  rw[decide_eq_false h0,Bool.not_false,Bool.true_and]at hR;refine A0a A1b ?_;simp -implicitDefEqProofs [l1,hb];refine A1f (α:=Unit) (fun _=>⟨[],[],0,19⟩) (fun _=>R=true) (fun _=>rfl) ?_ ?_
  ·refine A0a A1b ?_;simp -implicitDefEqProofs;refine A0n ?_;refine A1a (SLw t) (fun j=>ws.length-j) (fun j=>j<=ws.length/\R=(ws.drop j).all fun w=>!decide (100<w.size)) 0 (fun _=>rfl) ⟨Nat.zero_le _,hR⟩ ?_ rfl ?_
   ·exact A0e (by simp -implicitDefEqProofs [SLw])
   rintro j ⟨hj,heq⟩;unfold SLw;by_cases hlt:j<ws.length
   ·obtain⟨w,hw⟩:∃w,ws[j]?=some w:=⟨_,List.getElem?_eq_getElem hlt⟩
    have i1:A1c 1 (.t t) (.t (iv (j:Int)))=_:=ht.iaddr hw .i64;have ld:∀(x:ByteArray) (r:List T) (H:Heap),A0f false 1 H (.t (.pt (eStr.enc x++r)))=some (.t (sv x)):=fun _ _ _=>rfl;have e1:IntKind.i64.wrap ((j:Int)+1)=((j+1:Nat):Int):=A0p (by omega) (by omega);rw[C5z hw]at heq;refine A3m ?_;refine A0c A1b ?_;simp -implicitDefEqProofs [l1,hlt];refine⟨rfl,?_⟩;refine A3m ?_;refine A0n ?_;by_cases h1:100<w.size
    ·have hb:(100:Int)<(w.size:Int):=by omega
     rw[decide_eq_true h1,Bool.not_true,Bool.false_and]at heq;subst heq;refine A0c A1b ?_;simp -implicitDefEqProofs [i1,ld,hb,A8c]
    ·have hb:¬(100:Int)<(w.size:Int):=by omega
     rw[decide_eq_false h1,Bool.not_false,Bool.true_and]at heq;refine A0c A1b ?_;simp -implicitDefEqProofs [i1,ld,hb];refine⟨rfl,?_⟩;refine A0c A1b ?_;simp -implicitDefEqProofs [e1];exact Abs.Next.mk (j+1) ⟨⟨by omega,heq⟩,by omega⟩ (A0e (by simp -implicitDefEqProofs))
   ·rw[List.drop_of_length_le (by omega)]at heq;refine A3m ?_;refine A0c A1b ?_;simp -implicitDefEqProofs [l1,hlt];exact Abs.Next.mk () heq (A0e (by simp -implicitDefEqProofs))
  ·rintro _ rfl;refine A0c A1b ?_;simp -implicitDefEqProofs
noncomputable def gLW:List T->Option T:=g1 (tSl eStr) fun ws=>if ws.length<=2000000 then some (bv (ltW ws))else none
theorem hLW:GOK Tryz.prog (G q) 70 gLW:=A7r fun a l r ha hr=>by
 split at hr
 ·rename_i h;injection hr with hr;subst hr;exact E8t ha h
 ·cases hr
theorem F5y {t:T} {l:List ByteArray} (ht:IsS eStr t l) (hl:l.length<=2000000):gLW [t]=some (bv (ltW l)):=by
 show g1 _ _ _=_;rw[A7s (τ:=tSl eStr) ht,if_pos hl]
def ltD (m:Nat) (d:Dv):Bool:=decide (sizD d m<=m)
def ltI (x:It):Bool:=!decide (100<x.id.size)&&(ltW x.words&&(!decide (270<x.decs.length)&&(ltD 80 x.gold&&x.decs.all fun d=>!decide (100<d.p.name.size))))
def SLi (I:Row) (j:Nat):A0b:=⟨[(3,.t (iv (j:Int))),(1,.ptr 0 0)],[(0,I)],1,42⟩
theorem E8u (c:IC) (hs:SmI c.x):A0z Tryz.prog (G q) 38 [.ag c.cs] (· = bv (ltI c.x)):=by
 obtain⟨tw,td,k,nm,f,t,tk,ks,ecs,_,_,hw,hd,hgD⟩:=A3f c.ok;have ld:=hd.len;have hdl:=hs.len;have eW:=F5y hw hs.words.1;have eG:=C9g hgD (m:=80) (by omega);have eG:C3q [.ag [iv k,sv nm,iv f,iv t,tk],.v (.int .i64 80)]=some (bv (ltD 80 c.x.gold)):=eG
 obtain⟨id,hid⟩:∃id,id=c.x.id:=⟨_,rfl⟩
 have cdx:A0y (.t (.ag c.cs))=some [.t (sv id),.t tw,.t (iv c.x.state),.t td,.t (iv k),.t (sv nm),.t (iv f),.t (iv t),.t tk]:=by rw[ecs,hid];rfl
 obtain⟨Y,hY⟩:∃Y,Y=iRow id tw c.x.state td k nm f t tk:=⟨_,rfl⟩
 have y:=ldI id tw c.x.state td k nm f t tk (H:=[(0,Y)]) (b:=0) (by rw[hY];rfl);have C:Ctx Tryz.prog (G q) _:=(A0x.cons (hLW (q:=q)) (.cons (F0a (q:=q)) .nil)).ctx mixed
 obtain⟨R,hR⟩:∃R,R=ltI c.x:=⟨_,rfl⟩
 rw[<-hR];unfold ltI at hR;rw[<-hid]at hR;refine C0k.call rfl ?_;(conv in B1a=>cbv);refine A0a C ?_;simp -implicitDefEqProofs [cdx];rw[show Row.cells 28 [.t (sv id),.t tw,.t (iv c.x.state),.t td,.t (iv k),.t (sv nm),.t (iv f),.t (iv t),.t tk]=Y from hY.symm];have yg:=y.g;by_cases a1:100<id.size
 ·have hb:(100:Int)<(id.size:Int):=by omega
  rw[decide_eq_true a1,Bool.not_true,Bool.false_and]at hR;subst hR;refine A0a C ?_;simp -implicitDefEqProofs [y.l0,hb]
 have b1:¬(100:Int)<(id.size:Int):=by omega
 rw[decide_eq_false a1,Bool.not_false,Bool.true_and]at hR
 cases a2:ltW c.x.words with
 | false=>
  rw[a2,Bool.false_and]at hR;rw[a2]at eW;subst hR;refine A0a C ?_;simp -implicitDefEqProofs [y.l0,b1,y.l1,eW]
 | true=>
 rw[a2,Bool.true_and]at hR;rw[a2]at eW;by_cases a3:270<c.x.decs.length
 ·have hb:(270:Int)<(c.x.decs.length:Int):=by omega
  rw[decide_eq_true a3,Bool.not_true,Bool.false_and]at hR;subst hR;refine A0a C ?_;simp -implicitDefEqProofs [y.l0,b1,y.l1,eW,y.l3,ld,hb]
 have b3:¬(270:Int)<(c.x.decs.length:Int):=by omega
 rw[decide_eq_false a3,Bool.not_false,Bool.true_and]at hR
 cases a4:ltD 80 c.x.gold with
 | false=>
  rw[a4,Bool.false_and]at hR;rw[a4]at eG;subst hR;refine A0a C ?_;simp -implicitDefEqProofs [y.l0,b1,y.l1,eW,y.l3,ld,b3,yg,eG]
 | true=>
 rw[a4,Bool.true_and]at hR;rw[a4]at eG;refine A0a C ?_;simp -implicitDefEqProofs [y.l0,b1,y.l1,eW,y.l3,ld,b3,yg,eG];refine A1f (α:=Unit) (fun _=>⟨[],[],0,42⟩) (fun _=>R=true) (fun _=>rfl) ?_ ?_
 ·refine A0a C ?_;simp -implicitDefEqProofs;refine A0n ?_;refine A1a (SLi Y) (fun j=>c.x.decs.length-j) (fun j=>j<=c.x.decs.length/\R=(c.x.decs.drop j).all fun d=>!decide (100<d.p.name.size)) 0 (fun _=>rfl) ⟨Nat.zero_le _,hR⟩ ?_ rfl ?_
  ·exact A0e (by simp -implicitDefEqProofs [SLi])
  rintro j ⟨hj,heq⟩;unfold SLi;by_cases hlt:j<c.x.decs.length
  ·obtain⟨d,hdx⟩:∃d,c.x.decs[j]?=some d:=⟨_,List.getElem?_eq_getElem hlt⟩
   have i1:A1c 5 (.t td) (.t (iv (j:Int)))=_:=hd.iaddr hdx .i64;have ln:∀(r:List T) (H:Heap),A0f false 1 H (.t (.pt (eDc.enc d++r).tail))=some (.t (sv d.p.name)):=fun _ _=>rfl;have e1:IntKind.i64.wrap ((j:Int)+1)=((j+1:Nat):Int):=A0p (by omega) (by omega);rw[C5z hdx]at heq;refine A3m ?_;refine A0c C ?_;simp -implicitDefEqProofs [y.l3,ld,hlt];refine⟨rfl,?_⟩;refine A3m ?_;refine A0n ?_;by_cases h1:100<d.p.name.size
   ·have hb:(100:Int)<(d.p.name.size:Int):=by omega
    rw[decide_eq_true h1,Bool.not_true,Bool.false_and]at heq;subst heq;refine A0c C ?_;simp -implicitDefEqProofs [y.l3,i1,ln,hb,A8c]
   ·have hb:¬(100:Int)<(d.p.name.size:Int):=by omega
    rw[decide_eq_false h1,Bool.not_false,Bool.true_and]at heq;refine A0c C ?_;simp -implicitDefEqProofs [y.l3,i1,ln,hb];refine⟨rfl,?_⟩;refine A0c C ?_;simp -implicitDefEqProofs [e1];exact Abs.Next.mk (j+1) ⟨⟨by omega,heq⟩,by omega⟩ (A0e (by simp -implicitDefEqProofs))
  ·rw[List.drop_of_length_le (by omega)]at heq;refine A3m ?_;refine A0c C ?_;simp -implicitDefEqProofs [y.l3,ld,hlt];exact Abs.Next.mk () heq (B6c (by omega) (fun z hz=>by cases hz) (by simp -implicitDefEqProofs [under]))
 ·rintro _ rfl;refine A0c C ?_;simp -implicitDefEqProofs
noncomputable def gLI:List T->Option T:=g1 tIt fun c=>open Classical in if SmI c.x then some (bv (ltI c.x))else none
theorem hLI:GOK Tryz.prog (G q) 38 gLI:=A7r fun a c r ha hr=>by
 split at hr
 ·rename_i h;injection hr with hr;subst hr;obtain rfl:a = .ag c.cs:=ha;exact E8u c h
 ·cases hr
theorem F5z (c:IC) (h:SmI c.x):gLI [.ag c.cs]=some (bv (ltI c.x)):=by
 show g1 _ _ _=_;rw[A7s (τ:=tIt) (x:=c) rfl,if_pos h]
def ltX (n:Nat) (x:It):Bool:=ltI x && !(decide (8<n)&&(decide (2<x.words.length)||(decide (0<x.decs.length) || !ltD 4 x.gold)))
def ltB (b:Tb):Bool:=!decide (100<b.ver.size)&&(!decide (270<b.items.length)&&b.items.all fun x=>ltX b.items.length x)
def SLb (X:Row) (j:Nat):A0b:=⟨[(3,.t (iv (j:Int))),(1,.ptr 0 0)],[(0,X)],1,64⟩
theorem F6a {u:T} {l:List IC} (h:IsS eIC u l) {i:Nat} {c:IC} (hx:l[i]?=some c) {id:ByteArray} {tw td tk:T} {st k f t:Int} {nm:ByteArray} (ecs:c.cs=[sv id,tw,iv st,td,iv k,sv nm,iv f,iv t,tk]) :
  ∃r,A1c 9 (.t u) (.t (iv (i:Int)))=some (.t (.pt (sv id::tw::iv st::td::iv k::sv nm::iv f::iv t::tk::r))):=by
 have:=h.iaddr hx .i64;refine⟨rest eIC l i,?_⟩;have e:eIC.enc c=c.cs:=rfl;rw[e,ecs]at this;exact this
theorem E8v {ver:ByteArray} {u:T} {l:List IC} (hu:IsS eIC u l) (hs:SmB ver l):A0z Tryz.prog (G q) 35 [.ag [sv ver,u]] (· = bv (ltB ⟨ver,l.map IC.x⟩)):=by
 have cd:A0y (.t (.ag [sv ver,u]))=some [.t (sv ver),.t u]:=rfl;have lu:=hu.len;have hll:=hs.len
 obtain⟨X,hX⟩:∃X,X=bRow ver u:=⟨_,rfl⟩
 have z:=ldB (ver:=ver) (u:=u) (H:=[(0,X)]) (b:=0) (by rw[hX];rfl);have C:Ctx Tryz.prog (G q) _:=(A0x.cons (hLI (q:=q)) (.cons (F0a (q:=q)) .nil)).ctx mixed
 obtain⟨R,hR⟩:∃R,R=ltB ⟨ver,l.map IC.x⟩:=⟨_,rfl⟩
 rw[<-hR];unfold ltB at hR;simp only[List.length_map]at hR;refine D1w.call rfl ?_;(conv in C0j=>cbv);refine A0a C ?_;simp -implicitDefEqProofs [cd];rw[show Row.cells 39 [.t (sv ver),.t u]=X from hX.symm];by_cases a1:100<ver.size
 ·have hb:(100:Int)<(ver.size:Int):=by omega
  rw[decide_eq_true a1,Bool.not_true,Bool.false_and]at hR;subst hR;refine A0a C ?_;simp -implicitDefEqProofs [z.l0,hb]
 have b1:¬(100:Int)<(ver.size:Int):=by omega
 rw[decide_eq_false a1,Bool.not_false,Bool.true_and]at hR;by_cases a3:270<l.length
 ·have hb:(270:Int)<(l.length:Int):=by omega
  rw[decide_eq_true a3,Bool.not_true,Bool.false_and]at hR;subst hR;refine A0a C ?_;simp -implicitDefEqProofs [z.l0,b1,z.l1,lu,hb]
 have b3:¬(270:Int)<(l.length:Int):=by omega
 rw[decide_eq_false a3,Bool.not_false,Bool.true_and]at hR;refine A0a C ?_;simp -implicitDefEqProofs [z.l0,b1,z.l1,lu,b3];refine A1f (α:=Unit) (fun _=>⟨[],[],0,64⟩) (fun _=>R=true) (fun _=>rfl) ?_ ?_
 ·refine A0a C ?_;simp -implicitDefEqProofs;refine A0n ?_;refine A1a (SLb X) (fun j=>l.length-j) (fun j=>j<=l.length/\R=((l.map IC.x).drop j).all fun x=>ltX l.length x) 0 (fun _=>rfl) ⟨Nat.zero_le _,hR⟩ ?_ rfl ?_
  ·exact A0e (by simp -implicitDefEqProofs [SLb])
  rintro j ⟨hj,heq⟩;unfold SLb;by_cases hlt:j<l.length
  ·obtain⟨c,hc⟩:∃c,l[j]?=some c:=⟨_,List.getElem?_eq_getElem hlt⟩
   have hcx:(l.map IC.x)[j]?=some c.x:=by rw[List.getElem?_map,hc];rfl
   have hsc:=hs.items c (List.mem_of_getElem? hc);obtain⟨tw,td,k,nm,f,t,tk,ks,ecs,_,_,hw,hd,hgD⟩:=A3f c.ok;obtain⟨r,i1⟩:=F6a hu hc ecs
   have ld9:∀H:Heap,A0f true 9 H (.t (.pt (sv c.x.id::tw::iv c.x.state::td::iv k::sv nm::iv f::iv t::tk::r)))=some (.t (.ag c.cs)):=fun H=>by rw[ecs];rfl
   have lw:∀H:Heap,A0f false 1 H (.t (.pt (tw::iv c.x.state::td::iv k::sv nm::iv f::iv t::tk::r)))=some (.t tw):=fun H=>rfl;have ldd:∀H:Heap,A0f false 1 H (.t (.pt (td::iv k::sv nm::iv f::iv t::tk::r)))=some (.t td):=fun H=>rfl;have lg:∀H:Heap,A0f true 5 H (.t (.pt (iv k::sv nm::iv f::iv t::tk::r)))=some (.t (.ag [iv k,sv nm,iv f,iv t,tk])):=fun H=>rfl;have l1:=hw.len;have l2:=hd.len;have e1:IntKind.i64.wrap ((j:Int)+1)=((j+1:Nat):Int):=A0p (by omega) (by omega);have eI:=F5z c hsc;have eG:=C9g hgD (m:=4) (by omega);have eG:C3q [.ag [iv k,sv nm,iv f,iv t,tk],.v (.int .i64 4)]=some (bv (ltD 4 c.x.gold)):=eG;rw[C5z hcx]at heq;have hx:ltX l.length c.x=(ltI c.x && !(decide (8<l.length)&&(decide (2<c.x.words.length)||(decide (0<c.x.decs.length) || !ltD 4 c.x.gold)))):=rfl;rw[hx]at heq
   have step:R=(((l.map IC.x).drop (j+1)).all fun x=>ltX l.length x)->∀env,Abs.look env 3=some (.t (iv ((j+1:Nat):Int)))->Abs.look env 1=some (.ptr 0 0)->Abs.Next Tryz.prog (G q) 0 (SLb X) (fun a'=>(a'<=l.length/\R=((l.map IC.x).drop a').all fun x=>ltX l.length x)/\l.length-a'<l.length-j) ⟨env,[(0,X)],1,64⟩:=fun h env h3 h1=>by
    refine Abs.Next.mk (j+1) ⟨⟨by omega,h⟩,by omega⟩ (A0e fun z hz=>?_);simp only[SLb,List.mem_cons,List.not_mem_nil,or_false]at hz;rcases hz with rfl | rfl
    ·exact h3
    ·exact h1
   refine A3m ?_;refine A0c C ?_;simp -implicitDefEqProofs [z.l1,lu,hlt];refine⟨rfl,?_⟩;refine A3m ?_;refine A0n ?_
   cases a4:ltI c.x with
   | false=>
    rw[a4,Bool.false_and,Bool.false_and]at heq;rw[a4]at eI;subst heq;refine A0c C ?_;simp -implicitDefEqProofs [z.l1,i1,ld9,eI,A8c]
   | true=>
   rw[a4,Bool.true_and]at heq;rw[a4]at eI;by_cases a5:8<l.length
   rotate_left
   ·have b5:¬(8:Int)<(l.length:Int):=by omega
    rw[decide_eq_false a5,Bool.false_and,Bool.not_false,Bool.true_and]at heq;refine A0c C ?_;simp -implicitDefEqProofs [z.l1,i1,ld9,eI,lu,b5];refine⟨rfl,?_⟩;refine A0c C ?_;simp -implicitDefEqProofs [e1];exact step heq _ rfl rfl
   have b5:(8:Int)<(l.length:Int):=by omega
   rw[decide_eq_true a5,Bool.true_and]at heq;by_cases a6:2<c.x.words.length
   ·have b6:(2:Int)<(c.x.words.length:Int):=by omega
    rw[decide_eq_true a6,Bool.true_or,Bool.not_true,Bool.false_and]at heq;subst heq;refine A0c C ?_;simp -implicitDefEqProofs [z.l1,i1,ld9,eI,lu,b5,lw,l1,b6,A8c]
   have b6:¬(2:Int)<(c.x.words.length:Int):=by omega
   rw[decide_eq_false a6,Bool.false_or]at heq;by_cases a7:0<c.x.decs.length
   ·have b7:(0:Int)<(c.x.decs.length:Int):=by omega
    rw[decide_eq_true a7,Bool.true_or,Bool.not_true,Bool.false_and]at heq;subst heq;refine A0c C ?_;simp -implicitDefEqProofs [z.l1,i1,ld9,eI,lu,b5,lw,l1,b6,ldd,l2,a7,b7,A8c]
   have b7:¬(0:Int)<(c.x.decs.length:Int):=by omega
   rw[decide_eq_false a7,Bool.false_or]at heq
   cases a8:ltD 4 c.x.gold with
   | false=>
    rw[a8,Bool.not_false,Bool.not_true,Bool.false_and]at heq;rw[a8]at eG;subst heq;refine A0c C ?_;simp -implicitDefEqProofs [z.l1,i1,ld9,eI,lu,b5,lw,l1,b6,ldd,l2,a7,b7,lg,eG,A8c]
   | true=>
    rw[a8,Bool.not_true,Bool.not_false,Bool.true_and]at heq;rw[a8]at eG;refine A0c C ?_;simp -implicitDefEqProofs [z.l1,i1,ld9,eI,lu,b5,lw,l1,b6,ldd,l2,a7,b7,lg,eG];refine⟨rfl,?_⟩;refine A0c C ?_;simp -implicitDefEqProofs [e1];exact step heq _ rfl rfl
  ·rw[List.drop_of_length_le (by rw[List.length_map];omega)]at heq;refine A3m ?_;refine A0c C ?_;simp -implicitDefEqProofs [z.l1,lu,hlt];exact Abs.Next.mk () heq (B6c (by omega) (fun z hz=>by cases hz) (by simp -implicitDefEqProofs [under]))
 ·rintro _ rfl;refine A0c C ?_;simp -implicitDefEqProofs
noncomputable def gLB:List T->Option T:=g1 tTb fun b=>open Classical in if SmB b.ver b.items then some (bv (ltB b.tb))else none
theorem hLB:GOK Tryz.prog (G q) 35 gLB:=A7r fun a b r ha hr=>by
 split at hr
 ·rename_i h;injection hr with hr;subst hr;obtain⟨u,rfl,hu⟩:=ha;exact E8v hu h
 ·cases hr
theorem F6b {ver:ByteArray} {u:T} {l:List IC} (hu:IsS eIC u l) (hs:SmB ver l):gLB [.ag [sv ver,u]]=some (bv (ltB ⟨ver,l.map IC.x⟩)):=by
 show g1 _ _ _=_;rw[A7s (τ:=tTb) (x:=⟨ver,l⟩) ⟨u,rfl,hu⟩,if_pos hs];rfl
open Go Go.Abs Go.RowKit
def A8t:List UInt8->List UInt8->List (List UInt8)
 | acc,[]=>[acc]
 | acc,c::r=>if c=10 then acc::A8t [] r else A8t (acc++[c]) r
theorem C0u:∀(l acc:List UInt8),10∉l->A8t acc l=[acc++l]
 | [],acc,_=>by simp[A8t]
 | c::r,acc,h=>by
  have hc:¬c=10:=fun e=>h (by simp[e]);rw[A8t,if_neg hc,C0u r _ (fun e=>h (by simp[e]))];simp
theorem C0v:∀(w acc r:List UInt8),10∉w->A8t acc (w++10::r)=(acc++w)::A8t [] r
 | [],acc,r,_=>by simp[A8t]
 | c::w,acc,r,h=>by
  have hc:¬c=10:=fun e=>h (by simp[e]);rw[List.cons_append,A8t,if_neg hc,C0v w _ r (fun e=>h (by simp[e]))];simp
abbrev nlB:ByteArray:=⟨#[10]⟩
theorem C9p:∀(n:Nat) (s:ByteArray),s.size<=n->Lib.splitB nlB 0 (Lib.countB s nlB) s=(A8t [] s.data.toList).map bs
 | n,s,hn=>by
  have hix:Lib.indexB s nlB=Lib.indexByte s.data.toList 10:=Lib.index_one _ _;rcases Lib.indexB_cases s nlB with h | ⟨i,h,hi⟩
  ·rw[Lib.splitB_miss _ _ _ _ h,C0u _ _ (B1p _ _ (by rw[<-hix];exact h))];simp only[List.nil_append,List.map_cons,List.map_nil,A6q]
  ·have hc:=Lib.countB_hit s nlB i (by decide) h;obtain⟨w,r,e,hl,hw⟩:=B1q _ _ i (by rw[<-hix];exact h);rw[hc,Nat.add_comm,Lib.splitB_hit _ _ _ _ i h];have hlen:s.data.toList.length=s.size:=rfl
   have e1:(s.extract (i+nlB.size) s.size).data.toList=r:=by
    rw[Lib.extract_data,e];rw[e]at hlen;simp only[List.length_append,List.length_cons]at hlen;show List.take (s.size-(i+1)) (List.drop (i+1) (w++10::r))=r
    have h4:List.drop (i+1) (w++10::r)=r:=by
     rw[<-hl,show w++10::r=(w++[10])++r by simp];exact List.drop_left' (by simp)
    rw[h4];exact List.take_of_length_le (by omega)
   have e2:s.extract 0 (i+0)=bs w:=by
    rw[<-A6q (s.extract 0 (i+0)),Lib.extract_data,e];congr 1;simp[<-hl]
   cases n with
   | zero=>rw[show s.size=0 by omega]at hlen;rw[e]at hlen;simp at hlen
   | succ n=>
    rw[C9p n _ (by
     have:(s.extract (i+nlB.size) s.size).data.toList.length=r.length:=by rw[e1]
     have h3:(s.extract (i+nlB.size) s.size).size=r.length:=this;rw[h3];rw[e]at hlen;simp at hlen
     omega),e1,e2,e,C0v w [] r hw]
    rfl
theorem B6o:∀(s acc:List UInt8),A8t acc s=(cutL acc s).1++[(cutL acc s).2]
 | [],acc=>by simp[A8t,cutL]
 | c::r,acc=>by
  rw[A8t,cutL];split
  ·rw[B6o r []];rfl
  ·exact B6o r (acc++[c])
def A7a (s:ByteArray):List ByteArray:=((cutL [] (lbs s)).1++[(cutL [] (lbs s)).2]).map bs
theorem E4r (s:ByteArray) (hs:s.size<=4294967280):C7r [sv s,.v (.string ⟨#[10]⟩)]=some (slT eStr (A7a s)):=by
 have e:=C9p s.size s (Nat.le_refl _);rw[B6o]at e;show g2 _ _ _ _=_;rw[A7c (τ:=tStr) (σ:=tStr) (x:=s) (y:=⟨#[10]⟩) rfl rfl,if_pos ⟨by omega,by decide⟩];exact congrArg (fun l=>some (slT eStr l)) e
def idxB (w:ByteArray):Nat->List ByteArray->Int
 | _,[]=>-1
 | i,x::r=>if x=w then(i:Int)else idxB w (i+1) r
def SIxB (t:T) (w:ByteArray) (n j:Nat):A0b:=⟨[(8,.t (iv (j:Int))),(7,.t (iv (n:Int))),(6,.t t),(1,.t (sv w)),(0,.t t)],[],0,19⟩
theorem E4s {t:T} {l:List ByteArray} (w:ByteArray) (ht:IsS eStr t l) (hl:l.length<=1000000):A0z Tryz.prog (G q) 140 [t,sv w] (· = iv (idxB w 0 l)):=by
 have l1:=ht.len
 obtain⟨R,hR⟩:∃R,R=idxB w 0 l:=⟨_,rfl⟩
 rw[<-hR];refine C1n.call rfl ?_;(conv in B2l=>cbv);refine A0a A1b ?_;simp -implicitDefEqProofs;refine A1f (α:=Unit) (fun _=>⟨[],[],0,19⟩) (fun _=>R = -1) (fun _=>rfl) ?_ ?_
 ·refine A0a A1b ?_;simp -implicitDefEqProofs [l1];refine A0n ?_;refine A1a (SIxB t w l.length) (fun j=>l.length-j) (fun j=>j<=l.length/\R=idxB w j (l.drop j)) 0 (fun _=>rfl) ⟨Nat.zero_le _,hR⟩ ?_ rfl ?_
  ·refine A0e ?_;simp -implicitDefEqProofs [SIxB]
  rintro j ⟨hj,heq⟩;by_cases hlt:j<l.length
  ·obtain⟨x,hx⟩:∃x,l[j]?=some x:=⟨_,List.getElem?_eq_getElem hlt⟩
   have i1:A1c 1 (.t t) (.t (iv (j:Int)))=_:=ht.iaddr hx .i64;have ld:∀(H:Heap) (r:List T),A0f false 1 H (.t (.pt (eStr.enc x++r)))=some (.t (sv x)):=fun _ _=>rfl;have e1:IntKind.i64.wrap ((j:Int)+1)=((j+1:Nat):Int):=A0p (by omega) (by omega);rw[List.drop_eq_getElem_cons hlt,(List.getElem?_eq_some_iff.1 hx).2,idxB]at heq;refine A0c A1b ?_;by_cases he:x=w
   ·subst he;rw[if_pos rfl]at heq;simp -implicitDefEqProofs [SIxB,hlt,i1,ld,A2w,heq]
   ·rw[if_neg he]at heq;have hb:¬w=x:=Ne.symm he;simp -implicitDefEqProofs [SIxB,hlt,i1,ld,A2w,hb,e1];refine Abs.Next.mk (j+1) ⟨⟨by omega,heq⟩,by omega⟩ ?_;exact A0e (by simp -implicitDefEqProofs)
  ·rw[List.drop_of_length_le (by omega),idxB]at heq;refine A0c A1b ?_;simp -implicitDefEqProofs [SIxB,hlt];exact Abs.Next.mk () heq (A0e (by simp -implicitDefEqProofs))
 rintro _ h;refine A0c A1b ?_;simp -implicitDefEqProofs [h]
noncomputable def gIx:List T->Option T:=g2 (tSl eStr) tStr fun l w=>if l.length<=1000000 then some (iv (idxB w 0 l))else none
theorem hIx:GOK Tryz.prog (G q) 140 gIx:=A7t fun a b l w r ha hb hr=>by
 obtain rfl:b=sv w:=hb;split at hr
 ·rename_i h;injection hr with hr;subst hr;exact E4s w ha h
 ·cases hr
theorem E4t {t:T} {l:List ByteArray} (w:ByteArray) (ht:IsS eStr t l) (hl:l.length<=1000000):gIx [t,sv w]=some (iv (idxB w 0 l)):=by
 show g2 _ _ _ _=_;rw[A7c (τ:=tSl eStr) (σ:=tStr) ht rfl,if_pos hl]
noncomputable def gCt:List T->Option T:=g2 (tSl eStr) tStr fun l w=>if l.length<=1000000 then some (bv (decide (0<=idxB w 0 l)))else none
theorem hCt:GOK Tryz.prog (G q) 139 gCt:=A7t fun a b l w r ha hb hr=>by
 obtain rfl:b=sv w:=hb;split at hr
 ·rename_i h;injection hr with hr;subst hr;have e:=E4t w ha h;refine B3k.runs ((A0x.cons (hIx (q:=q)) .nil).ctx mixed) rfl ?_
  (conv in A6s=>cbv);simp -implicitDefEqProofs [e]
 ·cases hr
theorem F6c {t:T} {l:List ByteArray} (w:ByteArray) (ht:IsS eStr t l) (hl:l.length<=1000000):gCt [t,sv w]=some (bv (decide (0<=idxB w 0 l))):=by
 show g2 _ _ _ _=_;rw[A7c (τ:=tSl eStr) (σ:=tStr) ht rfl,if_pos hl]
theorem F0c {a b:List UInt8}:bs a=bs b ↔ a=b:=⟨fun h=>by have:=congrArg lbs h;rwa[A3j,A3j]at this,fun h=>by rw[h]⟩
theorem E4u (w:List UInt8):∀(l:List (List UInt8)) (i:Nat),idxB (bs w) i (l.map bs)=match idxW w i l with
  | some n=>(n:Int)
  | none=>-1
 | [],i=>rfl
 | x::r,i=>by
  rw[List.map_cons,idxB,idxW];by_cases h:x=w
  ·rw[if_pos h,if_pos (by rw[h])]
  ·rw[if_neg h,if_neg (fun e=>h (F0c.1 e)),E4u w r (i+1)]
def gCut:List T->Option T:=fun args=>match args with
 | [.v (.string s),.v (.string p)]=>if s.size<4294967281 then some (.tu [sv ⟨(Lib.cut s.data.toList p.data.toList).1.toArray⟩,sv ⟨(Lib.cut s.data.toList p.data.toList).2.1.toArray⟩,bv (Lib.cut s.data.toList p.data.toList).2.2])else none
 | _=>none
theorem hCut:GOK Tryz.prog (G q) 175 gCut:=fun args r hr=>by
 unfold gCut at hr;split at hr
 ·rename_i s p;split at hr
  ·rename_i h;injection hr with hr;subst hr;refine⟨⟨_,(Tryz.f175.body).get!,Tryz.func175,by kernel_rfl,by kernel_rfl⟩,fun I w us hlt hG hargs=>?_⟩
   have e:us = #[.string s,.string p]:=by
    have:=B8o (vs:=[.string s,.string p]) hargs;cases us;simp_all
   subst e
   have hm:w.cell? ⟨0,0,none⟩=some (.int .i64 q.m):=by
    obtain⟨x,hx,_,hr⟩:=(hG 0 [.v (.int .i64 q.m)] rfl).2.1.at_ 0 (c:=.v (.int .i64 q.m)) rfl;simp only[RepT]at hr;subst hr;simpa using hx
   refine(Tryz.strings_Cut s p q.m w h hm).mono fun e w' h'=>?_;obtain⟨he,n,rfl⟩:=h';exact⟨_,_,I,he,rfl,by simp only[RepT,RepL];exact⟨_,rfl,_,_,rfl,rfl,_,_,rfl,rfl,_,_,rfl,rfl,rfl⟩,⟨rfl,rfl,rfl⟩,Nat.le_refl _,fun _ _=>rfl,fun _ h=>h,fun _ h=>.inl h,hlt⟩
  ·cases hr
 ·cases hr
def gCp:List T->Option T:=fun args=>match args with
 | [.v (.string s),.v (.string p)]=>some (.tu [sv ⟨(Lib.trimPrefix s.data.toList p.data.toList).toArray⟩,bv (Lib.hasPrefix s.data.toList p.data.toList)])
 | _=>none
theorem hCp:GOK Tryz.prog (G q) 177 gCp:=fun args r hr=>by
 unfold gCp at hr;split at hr
 ·rename_i s p;injection hr with hr;subst hr;refine⟨⟨_,(Tryz.f177.body).get!,Tryz.func177,by kernel_rfl,by kernel_rfl⟩,fun I w us hlt hG hargs=>?_⟩
  have e:us = #[.string s,.string p]:=by
   have:=B8o (vs:=[.string s,.string p]) hargs;cases us;simp_all
  subst e;refine(Tryz.strings_CutPrefix s p w).mono fun e w' h'=>?_;obtain⟨he,rfl⟩:=h';exact⟨_,_,I,he,rfl,by simp only[RepT,RepL];exact⟨_,rfl,_,_,rfl,rfl,_,_,rfl,rfl,rfl⟩,⟨rfl,rfl,rfl⟩,Nat.le_refl _,fun _ _=>rfl,fun _ h=>h,fun _ h=>.inl h,hlt⟩
 ·cases hr
def zDc:Dc:=⟨⟨0,⟨#[]⟩,0,0⟩,false⟩
def dcdT (ws:List (List UInt8)):T:=match decP ws with
 | some d=>.tu [.ag (eDc.enc d),bv true]
 | none=>.tu [.ag (eDc.enc zDc),bv false]
theorem bdDc0 (Φ:A0o) (H:Heap) (nx:Nat):A0d Φ H nx (.build [(0,4),(4,1)] [.int .i64 0,.string ⟨#[]⟩,.int .i64 0,.int .i64 0,.bool false] []) []=some (.t (.ag (eDc.enc zDc)),H,nx):=rfl
theorem stDcR (R:Heap) (cs:List PV) (h:cs.length=5) (d:Dc):A0r 5 ((0,.cells 61 cs)::R) (.ptr 0 0) (.t (.ag (eDc.enc d)))=some ((0,A4t d)::R):=by
 match cs,h with
 | [_,_,_,_,_],_=>simp[A0r,A0y,A3h,look,eDc]
theorem E8w {ws:List (List UInt8)} (h:ws.length≠5):decP ws=none:=by
 match ws,h with
 | [],_=>rfl
 | [_],_=>rfl
 | [_,_],_=>rfl
 | [_,_,_],_=>rfl
 | [_,_,_,_],_=>rfl
 | [_,_,_,_,_],h=>exact absurd rfl h
 | _::_::_::_::_::_::_,_=>rfl
theorem C9q {t:T} {ws:List ByteArray} (ht:IsS eStr t ws) (hsz:∀w∈ws,w.size<=281474976710656):A0z Tryz.prog (G q) 176 [t] (· = dcdT (ws.map lbs)):=by
 have l1:=ht.len
 obtain⟨P,hP⟩:∃P,P=dcdT (ws.map lbs):=⟨_,rfl⟩
 rw[<-hP];unfold dcdT at hP;have C:Ctx Tryz.prog (G q) _:=(A0x.cons (hKd (q:=q)) (.cons (hIx (q:=q)) (.cons (hNu (q:=q)) .nil))).ctx mixed;refine B5h.call rfl ?_;(conv in A7m=>cbv);refine A0a C ?_;simp -implicitDefEqProofs
 obtain⟨Z,hZ⟩:∃Z:Row,Z=A4t zDc:=⟨_,rfl⟩
 rw[show Row.cells 61 [.t (.v (.int .i64 0)),.t (.v (.string ⟨#[]⟩)),.t (.v (.int .i64 0)),.t (.v (.int .i64 0)),.t (.v (.bool false))]=Z from hZ.symm]
 have sZ:A0r 5 [(0,Z)] (.ptr 0 0) (.t (.ag (eDc.enc zDc)))=some [(0,Z)]:=by
  rw[hZ];exact stDcR [] _ rfl zDc
 have ldZ:A0f true 5 [(0,Z)] (.ptr 0 0)=some (.t (.ag (eDc.enc zDc))):=by rw[hZ];rfl
 have bz:=bdDc0;by_cases h5:ws.length=5
 rotate_left
 ·rw[E8w (by rw[List.length_map];exact h5)]at hP
  have hb:((ws.length:Int) != 5)=true:=by simpa using (by omega:¬(ws.length:Int)=5)
  refine A0a C ?_;simp -implicitDefEqProofs [l1,hb,bz,sZ,ldZ,hP,-evalK_build]
 obtain⟨y,k,n,f,to,rfl⟩:∃y k n f to,ws=[y,k,n,f,to]:=by
  match ws,h5 with
  | [y,k,n,f,to],_=>exact⟨y,k,n,f,to,rfl⟩
 have l1:A6o (.t t)=some (.t (.v (.int .i64 5))):=l1;have j0:A1c 1 (.t t) (.t (iv ((0:Nat):Int)))=_:=ht.iaddr (i:=0) rfl .i64;have j0:A1c 1 (.t t) (.t (.v (.int .i64 0)))=_:=j0;have j1:A1c 1 (.t t) (.t (iv ((1:Nat):Int)))=_:=ht.iaddr (i:=1) rfl .i64;have j1:A1c 1 (.t t) (.t (.v (.int .i64 1)))=_:=j1;have j2:A1c 1 (.t t) (.t (iv ((2:Nat):Int)))=_:=ht.iaddr (i:=2) rfl .i64;have j2:A1c 1 (.t t) (.t (.v (.int .i64 2)))=_:=j2;have j3:A1c 1 (.t t) (.t (iv ((3:Nat):Int)))=_:=ht.iaddr (i:=3) rfl .i64;have j3:A1c 1 (.t t) (.t (.v (.int .i64 3)))=_:=j3;have j4:A1c 1 (.t t) (.t (iv ((4:Nat):Int)))=_:=ht.iaddr (i:=4) rfl .i64;have j4:A1c 1 (.t t) (.t (.v (.int .i64 4)))=_:=j4;have ld:∀(x:ByteArray) (r:List T) (H:Heap),A0f false 1 H (.t (.pt (eStr.enc x++r)))=some (.t (sv x)):=fun _ _ _=>rfl;have eK:gKd []=some (slT eStr (kdN.map bs)):=rfl;have eI:=E4t k (IsS.mk (e:=eStr) (kdN.map bs)) (by decide)
 have ek:idxB k 0 (kdN.map bs)=match idxW (lbs k) 0 kdN with
  | some n=>(n:Int)
  | none=>-1:=by
  have:=E4u (lbs k) kdN 0;rwa[B7i]at this
 have n3:gNu [sv f]=some (numT (lbs f)):=C8o (hsz f (by simp));have n4:gNu [sv to]=some (numT (lbs to)):=C8o (hsz to (by simp));unfold numT at n3 n4
 obtain⟨TK,hTK⟩:∃TK,TK=slT eStr (kdN.map bs):=⟨_,rfl⟩
 rw[<-hTK]at eK eI
 have hP:P=match (match idxW (lbs k) 0 kdN with
  | none=>none
  | some i=>if(numS (lbs f)).2≠0\/(numS (lbs to)).2≠0\/(i=3/\lbs n≠[45])then none else some (⟨⟨i,if i=3 then⟨#[]⟩else bs (lbs n),(numS (lbs f)).1,(numS (lbs to)).1⟩,decide (lbs y=wYes)⟩:Dc))with
  | some d=>.tu [.ag (eDc.enc d),bv true]
  | none=>.tu [.ag (eDc.enc zDc),bv false]:=hP
 rw[B7i]at hP;generalize numS (lbs f)=nf at *;generalize numS (lbs to)=nt at *;obtain⟨f1,f2⟩:=nf;obtain⟨t1,t2⟩:=nt;simp only at n3 n4 hP;refine A0a C ?_;simp -implicitDefEqProofs [l1];refine A0a C ?_;simp -implicitDefEqProofs [eK,j1,ld,eI];refine A0a C ?_;simp -implicitDefEqProofs [j3,ld,n3];refine A0a C ?_;simp -implicitDefEqProofs [j4,ld,n4]
 cases hi:idxW (lbs k) 0 kdN with
 | none=>
  rw[hi]at ek hP;have ek:idxB k 0 (kdN.map bs) = -1:=ek;simp only at hP;rw[ek];refine A0a C ?_;simp -implicitDefEqProofs [bz,sZ,ldZ,hP,-evalK_build]
 | some i=>
  rw[hi]at ek hP;have ek:idxB k 0 (kdN.map bs)=(i:Int):=ek;simp only at hP;rw[ek]
  have b0:¬(i:Int)<0:=by omega
  by_cases h1:f2=0
  rotate_left
  ·rw[if_pos (.inl h1)]at hP
   have hb:(f2 != 0)=true:=by simpa using h1
   refine A0a C ?_;simp -implicitDefEqProofs [b0,hb,bz,sZ,ldZ,hP,-evalK_build]
  subst h1;by_cases h2:t2=0
  rotate_left
  ·rw[if_pos (.inr (.inl h2))]at hP
   have hb:(t2 != 0)=true:=by simpa using h2
   refine A0a C ?_;simp -implicitDefEqProofs [b0,hb,bz,sZ,ldZ,hP,-evalK_build]
  subst h2
  have hyy:decide (y=(⟨#[121,101,115]⟩:ByteArray))=decide (lbs y=wYes):=by
   rw[Bool.eq_iff_iff,decide_eq_true_iff,decide_eq_true_iff];exact⟨fun h=>by rw[h];rfl,fun h=>B5y h⟩
  rw[<-hyy]at hP
  have hy2:(y.toList==[121,101,115])=decide (y=(⟨#[121,101,115]⟩:ByteArray)):=by rw[<-A2w];simp
  have hn2:(n.toList==[45])=decide (n=(⟨#[45]⟩:ByteArray)):=by rw[<-A2w];simp
  have key:∀(kn:Int) (nm nm':ByteArray),(if kn=3 then nm'=⟨#[]⟩else nm'=nm)->P = .tu [.ag (eDc.enc ⟨⟨kn,nm',f1,t1⟩,decide (y=(⟨#[121,101,115]⟩:ByteArray))⟩),bv true] ->
    (∀(Φ:A0o) (H:Heap) (nx:Nat),A0d Φ H nx (.build [(0,1),(1,1),(2,1),(3,1)] [.int .i64 0,.string ⟨#[]⟩,.int .i64 0,.int .i64 0] [0,1,2,3]) [.t (iv kn),.t (sv nm),.t (iv f1),.t (iv t1)]=some (.t (.ag (ePr.enc ⟨kn,nm,f1,t1⟩)),H,nx)) /\
    A0r 4 ((1,.cells 59 [.t (.v (.int .i64 0)),.t (.v (.string ⟨#[]⟩)),.t (.v (.int .i64 0)),.t (.v (.int .i64 0))])::[(0,Z)]) (.ptr 1 0) (.t (.ag (ePr.enc ⟨kn,nm,f1,t1⟩)))=some [(1,pRow ⟨kn,nm,f1,t1⟩),(0,Z)] /\
    A0r 1 [(1,pRow ⟨kn,nm,f1,t1⟩),(0,Z)] (.ptr 1 1) (.t (.v (.string ⟨#[]⟩)))=some [(1,pRow ⟨kn,⟨#[]⟩,f1,t1⟩),(0,Z)] /\
    A0f true 4 [(1,pRow ⟨kn,nm',f1,t1⟩),(0,Z)] (.ptr 1 0)=some (.t (.ag (ePr.enc ⟨kn,nm',f1,t1⟩))) /\
    (∀yb,A0r 5 [(1,pRow ⟨kn,nm',f1,t1⟩),(0,Z)] (.ptr 0 0) (.t (.ag (eDc.enc ⟨⟨kn,nm',f1,t1⟩,yb⟩)))=some [(1,pRow ⟨kn,nm',f1,t1⟩),(0,A4t ⟨⟨kn,nm',f1,t1⟩,yb⟩)]) /\
    (∀yb,A0f true 5 [(1,pRow ⟨kn,nm',f1,t1⟩),(0,A4t ⟨⟨kn,nm',f1,t1⟩,yb⟩)] (.ptr 0 0)=some (.t (.ag (eDc.enc ⟨⟨kn,nm',f1,t1⟩,yb⟩)))) /\
    (∀(Φ:A0o) (H:Heap) (nx:Nat) (yb:Bool),A0d Φ H nx (.build [(0,4),(4,1)] [.int .i64 0,.string ⟨#[]⟩,.int .i64 0,.int .i64 0,.bool false] [0,1]) [.t (.ag (ePr.enc ⟨kn,nm',f1,t1⟩)),.t (bv yb)]=some (.t (.ag (eDc.enc ⟨⟨kn,nm',f1,t1⟩,yb⟩)),H,nx)):=fun kn nm nm' _ _=>
   ⟨fun _ _ _=>rfl,rfl,rfl,rfl,fun _=>by rw[hZ];rfl,fun _=>rfl,fun _ _ _ _=>rfl⟩
  by_cases h3:i=3
  ·subst h3
   by_cases h4:lbs n=[45]
   ·rw[if_neg (by simp[h4])]at hP;have hn:n=⟨#[45]⟩:=B5y h4;subst hn;obtain⟨k1,k2,k3,k4,k5,k6,k7⟩:=key 3 ⟨#[45]⟩ ⟨#[]⟩ rfl hP;have hP:P = .tu [.ag (eDc.enc ⟨⟨3,⟨#[]⟩,f1,t1⟩,decide (y=(⟨#[121,101,115]⟩:ByteArray))⟩),bv true]:=hP;generalize decide (y=(⟨#[121,101,115]⟩:ByteArray))=yb at *;refine A0a C ?_;simp -implicitDefEqProofs [b0,j2,ld];refine A0a C ?_;simp -implicitDefEqProofs [j2,ld,k1,k2,-evalK_build];refine A0a C ?_;simp -implicitDefEqProofs [k3];refine A0a C ?_;simp -implicitDefEqProofs [k4,j0,ld,hy2,k7,k5,-evalK_build];refine A0c C ?_;simp -implicitDefEqProofs [k6,hP]
   ·rw[if_pos (.inr (.inr ⟨rfl,h4⟩))]at hP;have hb:¬n=⟨#[45]⟩:=fun e=>h4 (by rw[e]);refine A0a C ?_;rw[decide_eq_false hb]at hn2;simp -implicitDefEqProofs [b0,j2,ld,hn2,bz,sZ,ldZ,hP,-evalK_build]
  ·rw[if_neg (by simp[h3])]at hP;rw[if_neg h3]at hP
   have hb:((i:Int)==3)=false:=by simpa using (by omega:¬(i:Int)=3)
   obtain⟨k1,k2,k3,k4,k5,k6,k7⟩:=key i n n (by rw[if_neg (by omega)]) hP;generalize hyb:decide (y=(⟨#[121,101,115]⟩:ByteArray))=yb at *;refine A0a C ?_;simp -implicitDefEqProofs [b0,hb];refine A0a C ?_;simp -implicitDefEqProofs [j2,ld,k1,k2,-evalK_build];refine A0a C ?_;simp -implicitDefEqProofs [hb];refine A0a C ?_;simp -implicitDefEqProofs [k4,j0,ld,hy2,k7,k5,-evalK_build];refine A0c C ?_;simp -implicitDefEqProofs [k6,hP]
theorem E8x {α:Type} (e:Enc α) (l:List α) (k:Nat) (hk:k<=l.length) (ik:IntKind):A3l e.z (.t (slT e l)) (some (.t (.v (.int ik (k:Int))))) none=some (.t (slT e (l.drop k))):=by
 simp only[A3l,slT,boundV];have tk:List.take ((l.length-k)*e.z) ((l.drop k).flatMap e.enc)=(l.drop k).flatMap e.enc:=List.take_of_length_le (by rw[A1w];simp);simp[hk,B0k,tk]
def rdR (a:T) (i:Nat):Row:=.cells 118 [.t a,.t (iv (i:Int))]
structure SmL (ls:List ByteArray):Prop where
 pos:1<=ls.length
 len:ls.length<=1000000
 size:∀w∈ls,w.size<=1000000
def C6a (a:T) (ls:List ByteArray) (i:Nat):T×List T:=
 if i+1<ls.length then(.tu [sv (ls.getD i ⟨#[]⟩),iv 0],[a,iv ((i+1:Nat):Int)])else(.tu [sv ⟨#[]⟩,iv 9],[a,iv (i:Int)])
theorem getD_some {ls:List ByteArray} {i:Nat} (h:i<ls.length):ls[i]?=some (ls.getD i ⟨#[]⟩):=by
 rw[List.getD_eq_getElem?_getD,List.getElem?_eq_getElem h];rfl
theorem D8o {a:T} {ls:List ByteArray} (ht:IsS eStr a ls) (hs:SmL ls) (i:Nat) (hi:i<=9000000000):A1n Tryz.prog (G q) 136 [.ptr 0 0] [(0,rdR a i)] 1 (.t (C6a a ls i).1) [(0,.cells 118 ((C6a a ls i).2.map .t))] 1:=by
 have l1:=ht.len;have hl:=hs.len;have hp:=hs.pos;have r0:∀j,A0f false 1 [(0,rdR a j)] (.ptr 0 0)=some (.t a):=fun _=>rfl;have r1:∀j:Nat,A0f false 1 [(0,rdR a j)] (.ptr 0 1)=some (.t (iv (j:Int))):=fun _=>rfl;have w1:∀j k:Nat,A0r 1 [(0,rdR a j)] (.ptr 0 1) (.t (iv (k:Int)))=some [(0,rdR a k)]:=fun _ _=>rfl;have e0:IntKind.i64.wrap ((ls.length:Int)-1)=((ls.length-1:Nat):Int):=A0p (by omega) (by omega);have e1:IntKind.i64.wrap ((i:Int)+1)=((i+1:Nat):Int):=A0p (by omega) (by omega);have e2:IntKind.i64.wrap (((i+1:Nat):Int)-1)=(i:Int):=A0p (by omega) (by omega)
 obtain⟨n,hn⟩:∃n,n=ls.length-1:=⟨_,rfl⟩
 rw[<-hn]at e0;refine A9z.callP rfl ?_;(conv in A5i=>cbv);refine A0a A1b ?_;simp -implicitDefEqProofs;by_cases h:i+1<ls.length
 ·have hlt:¬n<=i:=by omega
  have hg:=getD_some (show i<ls.length by omega);have i1:A1c 1 (.t a) (.t (iv (i:Int)))=_:=ht.iaddr hg .i64;have ld:∀(x:ByteArray) (r:List T) (H:Heap),A0f false 1 H (.t (.pt (eStr.enc x++r)))=some (.t (sv x)):=fun _ _ _=>rfl;unfold C6a;rw[if_pos h];generalize ls.getD i ⟨#[]⟩=x at *
  obtain⟨k,hk⟩:∃k,k=i+1:=⟨_,rfl⟩
  rw[<-hk]at e1 e2 ⊢;refine A0a A1b ?_;simp -implicitDefEqProofs [r0,r1,l1,e0,hlt];refine A0a A1b ?_;simp -implicitDefEqProofs [r1,e1,w1];refine A0c A1b ?_;simp -implicitDefEqProofs [r0,r1,e2,i1,ld];exact⟨.inr rfl,⟨[(2,.t (sv x)),(3,.t (iv 0))],[(0,rdR a k)],1,33⟩,[.t (sv x),.t (iv 0)],A0e (by simp -implicitDefEqProofs),rfl,rfl,rfl,rfl⟩
 ·have hlt:n<=i:=by omega
  unfold C6a;rw[if_neg h];refine A0a A1b ?_;simp -implicitDefEqProofs [r0,r1,l1,e0,hlt];exact⟨.inr rfl,⟨[(2,.t (sv ⟨#[]⟩)),(3,.t (iv 9))],[(0,rdR a i)],1,33⟩,[.t (sv ⟨#[]⟩),.t (iv 9)],A0e (by simp -implicitDefEqProofs),rfl,rfl,rfl,rfl⟩
noncomputable def gRdr (f:T->List ByteArray->Nat->List T->Option (T×List T)):List T->List T->Option (T×List T)
 | [a,.v (.int .i64 i)],ts=>((tSl eStr).dec a).bind fun ls=>open Classical in if SmL ls/\0<=i/\i.toNat<ls.length then f a ls i.toNat ts else none
 | _,_=>none
theorem B6p {F:Nat} {f:T->List ByteArray->Nat->List T->Option (T×List T)}
  (h:∀{a:T} {ls:List ByteArray} (i:Nat) (ts:List T) (r:T) (cs:List T),IsS eStr a ls->SmL ls->i<ls.length->f a ls i ts=some (r,cs)->A1n Tryz.prog (G q) F (.ptr 0 0::ts.map .t) [(0,rdR a i)] 1 (.t r) [(0,.cells 118 (cs.map .t))] 1) :
  HOK Tryz.prog (G q) F (hObj 118 (gRdr f)):=E0m fun cs ts r cs' hr=>by
 unfold gRdr at hr;split at hr
 ·rename_i a i;obtain⟨ls,hl,hr⟩:=Option.bind_eq_some_iff.1 hr;split at hr
  ·rename_i hc
   obtain⟨k,rfl⟩:∃k:Nat,i=(k:Int):=⟨i.toNat,by omega⟩
   exact h k _ _ _ (Ty.is_dec hl) hc.1 hc.2.2 hr
  ·cases hr
 ·cases hr
theorem F3d {f:T->List ByteArray->Nat->List T->Option (T×List T)} {a:T} {ls:List ByteArray} (ht:IsS eStr a ls) (hs:SmL ls) {i:Nat} (hi:i<ls.length) (ts:List T):gRdr f [a,iv (i:Int)] ts=f a ls i ts:=by
 have h2:(tSl eStr).dec a=some ls:=Ty.dec_is (τ:=tSl eStr) ht;show((tSl eStr).dec a).bind _=_;rw[h2,Option.bind_some,if_pos ⟨hs,by omega,hi⟩,Int.toNat_natCast]
theorem A9r {f:T->List ByteArray->Nat->List T->Option (T×List T)} {a:T} {ls:List ByteArray} (ht:IsS eStr a ls) (hs:SmL ls) {i:Nat} (hi:i<ls.length) {ts:List T} {o:T×List T} (ho:f a ls i ts=some o) {H:Heap} {b nx:Nat} (hl:Abs.look H b=some (rdR a i)) (hb:b<nx) :
  hObj 118 (gRdr f) (.ptr b 0::ts.map .t) H nx=some (.t o.1,upd H b (.cells 118 (o.2.map .t)),nx):=
 E0n (cs:=[a,iv (i:Int)]) hl hb (by rw[F3d ht hs hi,ho])
def fLn (a:T) (ls:List ByteArray) (i:Nat):List T->Option (T×List T)
 | []=>some (C6a a ls i)
 | _=>none
theorem hLn:HOK Tryz.prog (G q) 136 (hObj 118 (gRdr fLn)):=B6p fun {a ls} i ts r cs ht hs hi hf=>by
 unfold fLn at hf;split at hf
 ·injection hf with hf;have:=D8o (q:=q) ht hs i (by have:=hs.len;omega);rw[hf]at this;exact this
 ·cases hf
def C1t (ls:List ByteArray) (i:Nat):Bool:=decide (i+1<ls.length) || !decide (ls.getD i ⟨#[]⟩=⟨#[]⟩)
theorem D8p {a:T} {ls:List ByteArray} (ht:IsS eStr a ls) (hs:SmL ls) (i:Nat) (hi:i<ls.length):A1n Tryz.prog (G q) 92 [.ptr 0 0] [(0,rdR a i)] 1 (.t (bv (C1t ls i))) [(0,rdR a i)] 1:=by
 have l1:=ht.len;have hl:=hs.len;have hp:=hs.pos;have r0:∀j,A0f false 1 [(0,rdR a j)] (.ptr 0 0)=some (.t a):=fun _=>rfl;have r1:∀j:Nat,A0f false 1 [(0,rdR a j)] (.ptr 0 1)=some (.t (iv (j:Int))):=fun _=>rfl;have e0:IntKind.i64.wrap ((ls.length:Int)-1)=((ls.length-1:Nat):Int):=A0p (by omega) (by omega)
 obtain⟨n,hn⟩:∃n,n=ls.length-1:=⟨_,rfl⟩
 rw[<-hn]at e0
 obtain⟨R,hR⟩:∃R,R=C1t ls i:=⟨_,rfl⟩
 rw[<-hR];unfold C1t at hR;have hg:=getD_some hi;have i1:A1c 1 (.t a) (.t (iv (i:Int)))=_:=ht.iaddr hg .i64;have ld:∀(x:ByteArray) (r:List T) (H:Heap),A0f false 1 H (.t (.pt (eStr.enc x++r)))=some (.t (sv x)):=fun _ _ _=>rfl;generalize ls.getD i ⟨#[]⟩=x at *
 have hx2:(x.toList==[])=decide (x=(⟨#[]⟩:ByteArray)):=by rw[<-A2w];simp
 refine A9x.callP rfl ?_;(conv in A5g=>cbv);refine A0a A1b ?_;simp -implicitDefEqProofs;refine A0c A1b ?_;by_cases h:i+1<ls.length
 ·have hlt:i<n:=by omega
  rw[decide_eq_true h,Bool.true_or]at hR;simp -implicitDefEqProofs [r0,r1,l1,e0,hlt];exact⟨.inr rfl,⟨[(2,.t (bv R))],[(0,rdR a i)],1,27⟩,[.t (bv R)],A0e (by simp -implicitDefEqProofs [hR]),rfl,rfl,rfl,rfl⟩
 ·have hlt:¬i<n:=by omega
  rw[decide_eq_false h,Bool.false_or]at hR
  by_cases hx:x=⟨#[]⟩
  ·subst hx;have hR:R=false:=hR;simp -implicitDefEqProofs [r0,r1,l1,e0,hlt,i1,ld];exact⟨.inr rfl,⟨[(2,.t (bv R))],[(0,rdR a i)],1,27⟩,[.t (bv R)],A0e (by simp -implicitDefEqProofs [hR]),rfl,rfl,rfl,rfl⟩
  ·rw[decide_eq_false hx]at hx2 hR;have hR:R=true:=hR;simp -implicitDefEqProofs [r0,r1,l1,e0,hlt,i1,ld,hx2];exact⟨.inr rfl,⟨[(2,.t (bv R))],[(0,rdR a i)],1,27⟩,[.t (bv R)],A0e (by simp -implicitDefEqProofs [hR]),rfl,rfl,rfl,rfl⟩
def fMr (a:T) (ls:List ByteArray) (i:Nat):List T->Option (T×List T)
 | []=>some (bv (C1t ls i),[a,iv (i:Int)])
 | _=>none
theorem hMr:HOK Tryz.prog (G q) 92 (hObj 118 (gRdr fMr)):=B6p fun {a ls} i ts r cs ht hs hi hf=>by
 unfold fMr at hf;split at hf
 ·injection hf with hf;injection hf with h1 h2;subst h1;subst h2;exact D8p ht hs i hi
 ·cases hf
noncomputable def gWs:List T->Option T:=gStr (fun s=>A8h s.data.toList) 4294967280
theorem hWs:GOK Tryz.prog (G q) 137 gWs:=A9p D7h
theorem F0d {s:ByteArray} (h:s.size<=4294967280):gWs [sv s]=some (A8h s.data.toList):=B3p h
def B2s (first:ByteArray) (a:T) (ls:List ByteArray) (i:Nat):T×List T:=
 if i+1<ls.length then(match parts (lbs first) (lbs (ls.getD i ⟨#[]⟩))with
  | some ws=>(.tu [slT eStr (ws.map bs),iv 0],[a,iv ((i+1:Nat):Int)])
  | none=>(.tu [nilS,iv 8],[a,iv ((i+1:Nat):Int)]))
 else(.tu [nilS,iv 9],[a,iv (i:Int)])
theorem D2g {a:T} {ls:List ByteArray} (first:ByteArray) (ht:IsS eStr a ls) (hs:SmL ls) (i:Nat) (hi:i<ls.length):A1n Tryz.prog (G q) 91 [.ptr 0 0,.t (sv first)] [(0,rdR a i)] 1 (.t (B2s first a ls i).1) [(0,.cells 118 ((B2s first a ls i).2.map .t))] 1:=by
 have C:Ctx Tryz.prog (G q) _:=(A0x.cons (hWs (q:=q)) .nil).ctxH (A1s.cons (hLn (q:=q)) .nil) mixed;have o1:=A9r (f:=fLn) ht hs hi (ts:=[]) (o:=C6a a ls i) rfl (H:=[(0,rdR a i)]) (b:=0) (nx:=1) rfl (by omega);have hg:=getD_some hi;have hxs:=hs.size _ (List.mem_of_getElem? hg);unfold C6a at o1;refine A9q.callP rfl ?_;(conv in A5d=>cbv);refine A0a C ?_;simp -implicitDefEqProofs;unfold B2s;by_cases h:i+1<ls.length
 rotate_left
 ·rw[if_neg h]at o1 ⊢;have o1:hObj 118 (gRdr fLn) [.ptr 0 0] [(0,rdR a i)] 1=some (.t (.tu [sv ⟨#[]⟩,iv 9]),[(0,rdR a i)],1):=o1;refine A0a C ?_;simp -implicitDefEqProofs [o1];refine A0a C ?_;simp -implicitDefEqProofs;exact⟨.inr rfl,⟨[(4,.t nilS),(5,.t (iv 9))],[(0,rdR a i)],1,38⟩,[.t nilS,.t (iv 9)],A0e (by simp -implicitDefEqProofs),rfl,rfl,rfl,rfl⟩
 rw[if_pos h]at o1 ⊢;generalize ls.getD i ⟨#[]⟩=x at *
 obtain⟨k,hk⟩:∃k,k=i+1:=⟨_,rfl⟩
 rw[<-hk]at o1 ⊢;have o1:hObj 118 (gRdr fLn) [.ptr 0 0] [(0,rdR a i)] 1=some (.t (.tu [sv x,iv 0]),[(0,rdR a k)],1):=o1;have eW:=F0d (s:=x) (by omega);unfold A8h at eW;unfold parts;rw[show x.data.toList=lbs x from rfl]at eW;refine A0a C ?_;simp -implicitDefEqProofs [o1];refine A0a C ?_;simp -implicitDefEqProofs
 cases hw:A2y (lbs x)with
 | none=>
  rw[hw]at eW;have eW:gWs [sv x]=some (.tu [nilS,iv 8]):=eW;refine A0a C ?_;simp -implicitDefEqProofs [eW];refine A0a C ?_;simp -implicitDefEqProofs;exact⟨.inr rfl,⟨[(4,.t nilS),(5,.t (iv 8))],[(0,rdR a k)],1,38⟩,[.t nilS,.t (iv 8)],A0e (by simp -implicitDefEqProofs),rfl,rfl,rfl,rfl⟩
 | some ws=>
  cases ws with
  | nil=>
   rw[hw]at eW;have eW:gWs [sv x]=some (.tu [nilS,iv 0]):=eW;have ln:A6o (.t nilS)=some (.t (.v (.int .i64 0))):=rfl;refine A0a C ?_;simp -implicitDefEqProofs [eW];refine A0a C ?_;simp -implicitDefEqProofs [ln];exact⟨.inr rfl,⟨[(4,.t nilS),(5,.t (iv 8))],[(0,rdR a k)],1,38⟩,[.t nilS,.t (iv 8)],A0e (by simp -implicitDefEqProofs),rfl,rfl,rfl,rfl⟩
  | cons w r=>
   rw[hw]at eW;have eW:gWs [sv x]=some (.tu [slT eStr ((w::r).map bs),iv 0]):=eW;have hT:=IsS.mk (e:=eStr) ((w::r).map bs);have ln:=hT.len
   have hb:(((r.length+1:Nat):Int)==0)=false:=by simpa using (by omega:¬((r.length+1:Nat):Int)=0)
   have ln:A6o (.t (slT eStr ((w::r).map bs)))=some (.t (iv ((r.length+1:Nat):Int))):=by rw[ln];simp
   have i1:A1c 1 (.t (slT eStr ((w::r).map bs))) (.t (iv ((0:Nat):Int)))=_:=hT.iaddr (i:=0) rfl .i64;have i1:A1c 1 (.t (slT eStr ((w::r).map bs))) (.t (.v (.int .i64 0)))=_:=i1;have ld:∀(x:ByteArray) (r:List T) (H:Heap),A0f false 1 H (.t (.pt (eStr.enc x++r)))=some (.t (sv x)):=fun _ _ _=>rfl;have sl:=E8x eStr ((w::r).map bs) 1 (by simp) .i64;have sl:A3l 1 (.t (slT eStr ((w::r).map bs))) (some (.t (.v (.int .i64 1)))) none=some (.t (slT eStr (r.map bs))):=sl;generalize slT eStr ((w::r).map bs)=TW at *;generalize r.length+1=rl at *;refine A0a C ?_;simp -implicitDefEqProofs [eW]
   by_cases hf:w=lbs first
   ·have hwf:bs w=first:=by rw[hf,B7i]
    rw[if_pos hf];refine A0a C ?_;simp -implicitDefEqProofs [ln,hb,i1,ld,hwf,A2w];refine A0c C ?_;simp -implicitDefEqProofs [sl];exact⟨.inr rfl,⟨[(4,.t (slT eStr (r.map bs))),(5,.t (iv 0))],[(0,rdR a k)],1,38⟩,[.t (slT eStr (r.map bs)),.t (iv 0)],A0e (by simp -implicitDefEqProofs),rfl,rfl,rfl,rfl⟩
   ·have hwf:¬bs w=first:=fun e=>hf (by rw[<-e,A3j])
    have h2:((bs w).toList==first.toList)=false:=by rw[A2w];exact decide_eq_false hwf
    have h3:(w==first.toList)=false:=by
     have e:(bs w).toList=w:=by simp
     rwa[e]at h2
    rw[if_neg hf];refine A0a C ?_;simp -implicitDefEqProofs [ln,hb,i1,ld,h3];exact⟨.inr rfl,⟨[(4,.t nilS),(5,.t (iv 8))],[(0,rdR a k)],1,38⟩,[.t nilS,.t (iv 8)],A0e (by simp -implicitDefEqProofs),rfl,rfl,rfl,rfl⟩
def fPt (a:T) (ls:List ByteArray) (i:Nat):List T->Option (T×List T)
 | [.v (.string first)]=>some (B2s first a ls i)
 | _=>none
theorem hPt:HOK Tryz.prog (G q) 91 (hObj 118 (gRdr fPt)):=B6p fun {a ls} i ts r cs ht hs hi hf=>by
 unfold fPt at hf;split at hf
 ·rename_i first
  injection hf with hf
  have:=D2g (q:=q) first ht hs i hi
  rw[hf]at this;exact this
 ·cases hf
theorem C0w:∀(w r:List UInt8),32∉w->(w++32::r).takeWhile (fun c=>c≠32)=w
 | [],r,_=>by simp
 | c::w,r,h=>by
  have hc:c≠32:=fun e=>h (by simp[e]);rw[List.cons_append,List.takeWhile_cons,if_pos (by simpa using hc),C0w w r fun e=>h (by simp[e])]
theorem C3t:∀(w:List UInt8),32∉w->w.takeWhile (fun c=>c≠32)=w
 | [],_=>rfl
 | c::w,h=>by
  have hc:c≠32:=fun e=>h (by simp[e]);rw[List.takeWhile_cons,if_pos (by simpa using hc),C3t w fun e=>h (by simp[e])]
theorem F6d (l:List UInt8):(Lib.cut l [32]).1=hdW l:=by
 have hix:Lib.index l [32]=Lib.indexByte l 32:=Lib.index_one _ _;have hge:=Lib.indexByte_ge l 32;unfold Lib.cut hdW;rw[hix];by_cases h:0<=Lib.indexByte l 32
 ·rw[if_pos h];obtain⟨w,r,e,hl,hn⟩:=B1q l 32 (Lib.indexByte l 32).toNat (by omega);show l.take _=_;rw[<-hl]
  conv=>lhs;rw[e]
  rw[e,C0w w r hn];exact List.take_left
 ·rw[if_neg h];have:=B1p l 32 (by omega);show l=_;exact(C3t l this).symm
theorem D2h:∀{ws:List (List UInt8)} {w:List UInt8},w∈ws->w.length<=(jn ws).length
 | [x],w,h=>by simp at h;subst h;exact Nat.le_refl _
 | x::y::r,w,h=>by
  rw[A9n,List.length_append,List.length_cons];rcases List.mem_cons.1 h with rfl | h
  ·omega
  ·have:=D2h h;omega
def A4u:List (List UInt8)->Option (List Dc)×Nat
 | []=>(some [],0)
 | l::r=>if hdW l=wYes\/hdW l=wNo then
   match A2y l with
   | none=>(none,0)
   | some w=>match decP w with
    | none=>(none,0)
    | some d=>((A4u r).1.map (d::·),(A4u r).2+1)
  else(some [],0)
theorem C0x:∀l:List (List UInt8),(A4u l).2<=l.length/\∀ds,(A4u l).1=some ds->ds.length<=l.length
 | []=>by simp[A4u]
 | l::r=>by
  obtain⟨h1,h2⟩:=C0x r;rw[A4u];split
  ·split
   ·simp
   ·split
    ·simp
    ·refine⟨by simp only[List.length_cons];omega,fun ds h=>?_⟩;simp only[Option.map_eq_some_iff]at h;obtain⟨ds',h3,rfl⟩:=h;have:=h2 ds' h3;simp only[List.length_cons];omega
  ·simp
theorem C9r:∀l:List (List UInt8),A5u l=match (A4u l).1 with
  | some ds=>.ok (ds,l.drop (A4u l).2)
  | none=>.error 8
 | []=>rfl
 | l::r=>by
  rw[A5u,A4u];split
  ·split
   ·rename_i h;simp[h]
   ·rename_i w h;rw[h];simp only
    cases hd:decP w with
    | none=>rfl
    | some d=>
     simp only;rw[C9r r];cases (A4u r).1<;>rfl
  ·rfl
noncomputable def gDcd:List T->Option T:=g1 (tSl eStr) fun ws=>open Classical in if ∀w∈ws,w.size<=281474976710656 then some (dcdT (ws.map lbs))else none
theorem hDcd:GOK Tryz.prog (G q) 176 gDcd:=A7r fun a ws r ha hr=>by
 split at hr
 ·rename_i h;injection hr with hr;subst hr;exact C9q ha h
 ·cases hr
theorem F3e {t:T} {ws:List ByteArray} (ht:IsS eStr t ws) (h:∀w∈ws,w.size<=281474976710656):gDcd [t]=some (dcdT (ws.map lbs)):=by
 show g1 _ _ _=_;rw[A7s (τ:=tSl eStr) ht,if_pos h]
theorem F3f (s:ByteArray) (h:s.size<=1000000):∃x y,gCut [sv s,.v (.string ⟨#[32]⟩)]=some (.tu [sv (bs (hdW (lbs s))),x,y]):=by
 refine⟨sv ⟨(Lib.cut s.data.toList [32]).2.1.toArray⟩,bv (Lib.cut s.data.toList [32]).2.2,?_⟩;show(if s.size<4294967281 then _ else none)=_;rw[if_pos (by omega)];have:=F6d (lbs s);show some (T.tu [sv ⟨(Lib.cut (lbs s) [32]).1.toArray⟩,_,_])=_;rw[this]
def finO (a:T) (ls:List (List UInt8)) (out:List Dc) (j:Nat):T×List T:=match (A4u (ls.drop j)).1 with
 | some ds=>(.tu [A2e eDc (out++ds),iv 0],[a,iv ((j+(A4u (ls.drop j)).2:Nat):Int)])
 | none=>(.tu [nilS,iv 8],[a,iv ((j+(A4u (ls.drop j)).2:Nat):Int)])
abbrev lnL (ls:List ByteArray):List (List UInt8):=(ls.map lbs).dropLast
def HDe (a:T) (j:Nat) (out:List Dc):Heap:=[(0,rdR a j)]++rowH eDc 61 1 out
def SDcs (a:T) (x:Nat×List Dc):A0b:=⟨[(4,rowP eDc 1 x.2),(0,.ptr 0 0)],HDe a x.1 x.2,2,72⟩
theorem bslDc (d:Dc) (m:Nat):A5z 61 5 [.int .i64 0,.string ⟨#[]⟩,.int .i64 0,.int .i64 0,.bool false] 1 [(0,.t (.ag (eDc.enc d)))] m=some (.row m 0 1 5,A4t d):=rfl
theorem D8q {a:T} {ls:List ByteArray} (ht:IsS eStr a ls) (hs:SmL ls) (i:Nat) (hi:i<ls.length):A1n Tryz.prog (G q) 141 [.ptr 0 0] [(0,rdR a i)] 1 (.t (finO a (lnL ls) [] i).1) [(0,.cells 118 ((finO a (lnL ls) [] i).2.map .t))] 1:=by
 have C:Ctx Tryz.prog (G q) _:=(A0x.cons (hWs (q:=q)) (.cons (hCut (q:=q)) (.cons (hDcd (q:=q)) .nil))).ctx mixed;have l1:=ht.len;have hl:=hs.len;have hp:=hs.pos;have e0:IntKind.i64.wrap ((ls.length:Int)-1)=((ls.length-1:Nat):Int):=A0p (by omega) (by omega)
 obtain⟨n,hn⟩:∃n,n=ls.length-1:=⟨_,rfl⟩
 rw[<-hn]at e0
 obtain⟨P,hP⟩:∃P,P=finO a (lnL ls) [] i:=⟨_,rfl⟩
 rw[<-hP]
 obtain⟨L,hL⟩:∃L,L=lnL ls:=⟨_,rfl⟩
 rw[<-hL]at hP
 have hLl:L.length=n:=by rw[hL,hn];simp[lnL]
 refine A6z.callP rfl ?_;(conv in A3t=>cbv);refine A0a C ?_;simp -implicitDefEqProofs;refine A0a C ?_;simp -implicitDefEqProofs;refine A1f (α:=Nat×List Dc) (SDcs a) (fun x=>P=(.tu [A2e eDc x.2,iv 0],[a,iv (x.1:Int)])) (fun _=>rfl) ?_ ?_
 ·refine A0n ?_;refine A1a (SDcs a) (fun x=>n-x.1) (fun x=>x.1<=n/\x.2.length<=x.1/\finO a L x.2 x.1=P) (i,[]) (fun _=>rfl) ⟨by show i<=n;omega,Nat.zero_le _,hP.symm⟩ ?_ rfl ?_
  ·refine B4p (e:=eDc) (ty:=61) (b:=1) (k:=1) (l:=[]) (R:=[(0,rdR a i)]) (A1e.nil _ _ _ _) (by omega) (by omega) (fun z hz=>?_) (by simp -implicitDefEqProofs [SDcs,rowP,ren,under]);simp only[List.mem_singleton]at hz;subst hz;exact⟨rfl,by show 0<2;omega,by show 0≠1;omega,by show 0≠1;omega,rfl⟩
  rintro⟨j,out⟩ ⟨hj,hol,heq⟩;simp only at hj hol heq;have q0:Abs.look (HDe a j out) 0=some (rdR a j):=rfl;have r0:A0f false 1 (HDe a j out) (.ptr 0 0)=some (.t a):=rfl;have r1:A0f false 1 (HDe a j out) (.ptr 0 1)=some (.t (iv (j:Int))):=rfl
  have ra:A1e eDc 61 (HDe a j out) 1 out:=(A1e.head' eDc 61 1 out).imp (fun h=>h) fun h=>by
   show Abs.look ((0,rdR a j)::rowH eDc 61 1 out) 1=_;rw[look_cons,if_neg (by omega)];exact h
  by_cases hlt:j<n
  ·have hj2:j<ls.length:=by omega
   have hg:=getD_some hj2;have hxs:=hs.size _ (List.mem_of_getElem? hg);have ij:A1c 1 (.t a) (.t (iv (j:Int)))=_:=ht.iaddr hg .i64
   have hLj:L[j]?=some (lbs (ls.getD j ⟨#[]⟩)):=by
    rw[hL,List.getElem?_dropLast,if_pos (by rw[List.length_map];omega),List.getElem?_map,hg];rfl
   generalize ls.getD j ⟨#[]⟩=x at *;have ld:∀(x:ByteArray) (r:List T) (H:Heap),A0f false 1 H (.t (.pt (eStr.enc x++r)))=some (.t (sv x)):=fun _ _ _=>rfl;obtain⟨c1,c2,eCut⟩:=F3f x (by omega)
   have hdr:A4u (L.drop j)=A4u (lbs x::L.drop (j+1)):=by
    rw[List.drop_eq_getElem_cons (by omega),(List.getElem?_eq_some_iff.1 hLj).2]
   rw[A4u]at hdr
   have hyw:∀w:List UInt8,((bs (hdW (lbs x))).toList==(bs w).toList)=decide (hdW (lbs x)=w):=fun w=>by
    rw[A2w];by_cases h:hdW (lbs x)=w
    ·rw[decide_eq_true h,decide_eq_true (by rw[h])]
    ·rw[decide_eq_false h,decide_eq_false fun e=>h (F0c.1 e)]
   have hy:=hyw wYes;have hn':=hyw wNo
   have tb:∀w:List UInt8,(bs w).toList=w:=fun w=>by simp
   rw[tb,tb]at hy hn';have hy:(hdW (lbs x)==[121,101,115])=decide (hdW (lbs x)=wYes):=hy;have hn':(hdW (lbs x)==[110,111])=decide (hdW (lbs x)=wNo):=hn'
   have early:∀(H:Heap) (nx:Nat),Abs.look H 0=some (rdR a j)->P=(.tu [nilS,iv 8],[a,iv (j:Int)])->∀env,Abs.look env 2=some (.t nilS)->Abs.look env 3=some (.t (iv 8))->C7e Tryz.prog (G q) 1 [.tmp 2,.tmp 3] (fun r0 H0 nx0=>r0 = .t P.1/\H0=[(0,.cells 118 (P.2.map .t))]/\nx0=1) .ret ⟨env,H,nx,72⟩:=fun H nx h0 hP env e2 e3=>by
    subst hP;refine⟨.inr rfl,⟨[(2,.t nilS),(3,.t (iv 8))],[(0,rdR a j)],1,72⟩,[.t nilS,.t (iv 8)],B6c (by omega) (fun z hz=>?_) (fun z hz=>?_),rfl,rfl,rfl,rfl⟩
    ·simp only[List.mem_singleton]at hz;subst hz;exact⟨h0,by show 0<1;omega,rfl⟩
    ·simp only[List.mem_cons,List.not_mem_nil,or_false]at hz;rcases hz with rfl | rfl
     ·exact⟨e2,rfl⟩
     ·exact⟨e3,rfl⟩
   unfold SDcs;refine A0a C ?_;simp -implicitDefEqProofs [r0,r1,l1,e0,hlt];refine A0n ?_;refine A0a C ?_;simp -implicitDefEqProofs [r0,r1,ij,ld];refine A1f (α:=Unit) (fun _=>⟨[(5,.t (sv x)),(4,rowP eDc 1 out),(0,.ptr 0 0)],HDe a j out,2,72⟩) (fun _=>hdW (lbs x)=wYes\/hdW (lbs x)=wNo) (fun _=>rfl) ?_ ?_
   ·by_cases hyn:hdW (lbs x)=wYes\/hdW (lbs x)=wNo
    ·refine A0c C ?_;by_cases e:hdW (lbs x)=wYes
     ·rw[decide_eq_true e]at hy;simp -implicitDefEqProofs [eCut,hy];exact Abs.Next.mk () hyn (A0e (by simp -implicitDefEqProofs))
     ·rw[decide_eq_false e]at hy;rw[decide_eq_true (hyn.resolve_left e)]at hn';simp -implicitDefEqProofs [eCut,hy,hn'];exact Abs.Next.mk () hyn (A0e (by simp -implicitDefEqProofs))
    ·rw[if_neg hyn]at hdr;unfold finO at heq;rw[hdr]at heq;rw[not_or]at hyn;rw[decide_eq_false hyn.1]at hy;rw[decide_eq_false hyn.2]at hn';refine A0c C ?_;simp -implicitDefEqProofs [eCut,hy,hn'];refine Abs.Next.mk (j,out) ?_ (A0e (by simp -implicitDefEqProofs));rw[<-heq];simp
   rintro _ hyn;rw[if_pos hyn]at hdr;have eW:=F0d (s:=x) (by omega);unfold A8h at eW;rw[show x.data.toList=lbs x from rfl]at eW
   cases hw:A2y (lbs x)with
   | none=>
    rw[hw]at eW hdr;simp only at hdr;unfold finO at heq;rw[hdr]at heq;have eW:gWs [sv x]=some (.tu [nilS,iv 8]):=eW;refine A0a C ?_;simp -implicitDefEqProofs [eW];refine A0a C ?_;simp -implicitDefEqProofs;exact early _ _ q0 heq.symm _ rfl rfl
   | some w=>
    rw[hw]at eW hdr;simp only at hdr;have eW:gWs [sv x]=some (.tu [A2e eStr (w.map bs),iv 0]):=eW;have hWt:=IsS.tree eStr (w.map bs)
    have hws:∀z∈w.map bs,z.size<=281474976710656:=fun z hz=>by
     obtain⟨y,hy1,rfl⟩:=List.mem_map.1 hz;have h1:=D2h hy1;rw[B4u hw]at h1
     have h2:(bs y).size=y.length:=by show(lbs (bs y)).length=_;rw[A3j]
     have h3:(lbs x).length=x.size:=rfl;omega
    have eD:=F3e hWt hws;rw[E1f]at eD;unfold dcdT at eD
    obtain⟨TW,hTW⟩:∃TW,TW=A2e eStr (w.map bs):=⟨_,rfl⟩
    rw[<-hTW]at eW eD;refine A0a C ?_;simp -implicitDefEqProofs [eW];refine A0a C ?_;simp -implicitDefEqProofs
    cases hd:decP w with
    | none=>
     rw[hd]at eD hdr;simp only at hdr;unfold finO at heq;rw[hdr]at heq;have eD:gDcd [TW]=some (.tu [.ag (eDc.enc zDc),bv false]):=eD;have st2:=E4q zDc (HDe a j out) 2;refine A0a C ?_;simp -implicitDefEqProofs [eD,st2];refine A0a C ?_;simp -implicitDefEqProofs;exact early _ _ (by rw[look_cons,if_neg (by omega)];exact q0) heq.symm _ rfl rfl
    | some d=>
     rw[hd]at eD hdr;simp only at hdr
     have heq2:finO a L (out++[d]) (j+1)=P:=by
      rw[<-heq];unfold finO;rw[hdr];simp only;rw[show j+((A4u (L.drop (j+1))).2+1)=j+1+(A4u (L.drop (j+1))).2 by omega]
      cases (A4u (L.drop (j+1))).1 with
      | none=>rfl
      | some ds=>simp only[Option.map_some,List.append_assoc,List.cons_append,List.nil_append]
     have eD:gDcd [TW]=some (.tu [.ag (eDc.enc d),bv true]):=eD;have st2:=E4q d (HDe a j out) 2
     obtain⟨H1,hH1⟩:∃H1:Heap,H1=(2,A4t d)::HDe a j out:=⟨_,rfl⟩
     obtain⟨H2,hH2⟩:∃H2:Heap,H2=(2,A4t d)::HDe a (j+1) out:=⟨_,rfl⟩
     have e1:IntKind.i64.wrap ((j:Int)+1)=((j+1:Nat):Int):=A0p (by omega) (by omega)
     have s1:A0r 1 H1 (.ptr 0 1) (.t (iv ((j+1:Nat):Int)))=some H2:=by rw[hH1,hH2];rfl
     have en:((j+1:Nat):Int)=(j:Int)+1:=by omega
     rw[en]at s1 e1
     have m1:A0f false 1 H1 (.ptr 0 1)=some (.t (iv (j:Int))):=by rw[hH1];rfl
     have m2:A0f true 5 H2 (.ptr 2 0)=some (.t (.ag (eDc.enc d))):=by rw[hH2];rfl
     rw[<-hH1]at st2
     have ra2:A1e eDc 61 ((3,A4t d)::H2) 1 out:=(A1e.head' eDc 61 1 out).imp (fun h=>h) fun h=>by
      rw[hH2];show Abs.look ((3,A4t d)::(2,A4t d)::(0,rdR a (j+1))::rowH eDc 61 1 out) 1=_;rw[look_cons,if_neg (by omega),look_cons,if_neg (by omega),look_cons,if_neg (by omega)];exact h
     have bsl:=bslDc d 3;obtain⟨b5,H5,n5,ap,r5,ne5,le5,lk5,ge5⟩:=B8a (e:=eDc) (ty:=61) (by':=48) (nx:=4) (m:=[d]) ra2 (C4n (e:=eDc) (ty:=61) (b:=3) d (by rfl)) (by simp;omega) (by simp;omega);have ap:appM 61 5 48 ((3,A4t d)::H2) 4 (rowP eDc 1 out) (.row 3 0 1 5)=some (rowP eDc b5 (out++[d]),H5,n5):=ap
     have q5:Abs.look H5 0=some (rdR a (j+1)):=by rw[lk5 0 (by omega) (by omega),hH2];rfl
     refine A0a C ?_;simp -implicitDefEqProofs [eD,st2];refine A0a C ?_;simp -implicitDefEqProofs;refine A0a C ?_;simp -implicitDefEqProofs [m1,e1,s1];refine A0c C ?_;simp -implicitDefEqProofs [m2,bsl,ap];refine Abs.Next.mk (j+1,out++[d]) ⟨⟨by show j+1<=n;omega,by show(out++[d]).length<=j+1;simp;omega,heq2⟩,by show n-(j+1)<n-j;omega⟩ ?_;refine B4p (e:=eDc) (ty:=61) (b:=1) (k:=b5) (l:=out++[d]) (R:=[(0,rdR a (j+1))]) r5 (by omega) (by omega) (fun z hz=>?_) (by simp -implicitDefEqProofs [A7f,A4p,ren,under]);simp only[List.mem_singleton]at hz;subst hz;exact⟨q5,by show 0<2;omega,by show 0≠1;omega,by show 0≠b5;omega,rfl⟩
  ·have hjn:j=n:=by omega
   subst hjn
   have hdr:A4u (L.drop j)=(some [],0):=by rw[List.drop_of_length_le (by omega)];rfl
   unfold finO at heq;rw[hdr]at heq
   have hlt':¬j<j:=by omega
   unfold SDcs;refine A0c C ?_;simp -implicitDefEqProofs [r0,r1,l1,e0];refine Abs.Next.mk (j,out) ?_ (A0e (by simp -implicitDefEqProofs));rw[<-heq];simp
 ·rintro⟨j,out⟩ hP;simp only at hP;subst hP;refine MC.sub (s':=⟨[(4,.t (A2e eDc out)),(0,.ptr 0 0)],[(0,rdR a j)],1,72⟩) ?_ rfl ?_
  ·have ra:A1e eDc 61 (HDe a j out) 1 out:=(A1e.head' eDc 61 1 out).imp (fun h=>h) fun h=>by
    show Abs.look ((0,rdR a j)::rowH eDc 61 1 out) 1=_;rw[look_cons,if_neg (by omega)];exact h
   refine B8g [1] (by omega) (fun z hz=>?_) fun z hz=>?_
   ·simp only[List.mem_singleton]at hz;subst hz;exact⟨by simp,⟨_,rfl,rfl⟩,by show 0<1;omega,rfl⟩
   ·simp only[List.mem_cons,List.not_mem_nil,or_false]at hz;rcases hz with rfl | rfl
    ·exact⟨⟨_,rfl,E7y ra⟩,rfl⟩
    ·exact⟨⟨_,rfl,rfl⟩,rfl⟩
  refine A0c C ?_;simp -implicitDefEqProofs;exact⟨.inr rfl,⟨[(2,.t (A2e eDc out)),(3,.t (iv 0))],[(0,rdR a j)],1,72⟩,[.t (A2e eDc out),.t (iv 0)],A0e (by simp -implicitDefEqProofs),rfl,rfl,rfl,rfl⟩
theorem B1y (d:Dv):∃k nm f t tk,encD d=[iv k,sv nm,iv f,iv t,tk]:=by
 cases d with
 | mk k nm f t ks=>
  obtain⟨tk,e,_⟩:=(IsD.enc (.mk k nm f t ks)).parts;exact⟨k,nm,f,t,tk,e⟩
def gldW:List UInt8:=[103,111,108,100,32]
def C0y (a:T) (ls:List ByteArray) (i:Nat):T×List T:=
 if i+1<ls.length then(if(lbs (ls.getD i ⟨#[]⟩)).take 5=gldW then parT ((lbs (ls.getD i ⟨#[]⟩)).drop 5)else .tu [.ag (encD A1y),iv 8],[a,iv ((i+1:Nat):Int)])
 else(.tu [.ag (encD A1y),iv 9],[a,iv (i:Int)])
theorem E8y (l p:List UInt8):Lib.hasPrefix l p=decide (l.take p.length=p):=by
 unfold Lib.hasPrefix;rw[Bool.eq_iff_iff,List.isPrefixOf_iff_prefix,decide_eq_true_iff];constructor
 ·rintro⟨r,rfl⟩;exact List.take_left
 ·intro h;rw[<-h];exact List.take_prefix _ _
theorem E8z (s:ByteArray):gCp [sv s,.v (.string ⟨#[103,111,108,100,32]⟩)]=some (if(lbs s).take 5=gldW then .tu [sv (bs ((lbs s).drop 5)),bv true]else .tu [sv s,bv false]):=by
 have h:=E8y (lbs s) gldW;show some (T.tu [sv ⟨(Lib.trimPrefix (lbs s) gldW).toArray⟩,bv (Lib.hasPrefix (lbs s) gldW)])=_;unfold Lib.trimPrefix;rw[h];by_cases e:(lbs s).take 5=gldW
 ·rw[if_pos e,decide_eq_true (show(lbs s).take gldW.length=gldW from e)];rfl
 ·rw[if_neg e,decide_eq_false (show ¬(lbs s).take gldW.length=gldW from e)];exact congrArg (fun x=>some (T.tu [sv x,bv false])) (B7i s)
theorem C6b {a:T} {i k:Nat} (d:Dv) (e:Int) {Q:A0j} (hQ:Q = .ret) {env:List (Nat×PV)} (h2:Abs.look env 2=some (.ptr 1 0)) (h3:Abs.look env 3=some (.t (iv e))) (hk:k=i) :
  C7e Tryz.prog (G q) 1 [.cell 2 true 5,.tmp 3] (fun r0 H0 nx0=>r0 = .t (.tu [.ag (encD d),iv e])/\H0=[(1,dD d),(0,rdR a i)]/\nx0=2) .ret ⟨env,[(1,dD d),(0,rdR a k)],2,29⟩:=by
 subst hk;obtain⟨kk,nm,f,t,tk,ed⟩:=B1y d;refine⟨.inr rfl,⟨[(2,.ptr 1 0),(3,.t (iv e))],[(1,dD d),(0,rdR a k)],2,29⟩,[.t (.ag (encD d)),.t (iv e)],A0e (fun z hz=>?_),?_,rfl,rfl,rfl⟩
 ·simp only[List.mem_cons,List.not_mem_nil,or_false]at hz;rcases hz with rfl | rfl
  ·exact h2
  ·exact h3
 ·have:dD d = .cells 26 ((encD d).map .t):=rfl;rw[this,ed];rfl
theorem D8r {a:T} {ls:List ByteArray} (ht:IsS eStr a ls) (hs:SmL ls) (i:Nat) (hi:i<ls.length):A1n Tryz.prog (G q) 142 [.ptr 0 0] [(0,rdR a i)] 1 (.t (C0y a ls i).1) [(0,.cells 118 ((C0y a ls i).2.map .t))] 1:=by
 have C:Ctx Tryz.prog (G q) _:=(A0x.cons (hCp (q:=q)) (.cons (F5j (q:=q)) .nil)).ctxH (A1s.cons (hLn (q:=q)) .nil) mixed;have hg:=getD_some hi;have hxs:=hs.size _ (List.mem_of_getElem? hg);unfold C0y;have bz:∀(Φ:A0o) (H:Heap) (nx:Nat),A0d Φ H nx (.build [(0,1),(1,1),(2,1),(3,1),(4,1)] [.int .i64 0,.string ⟨#[]⟩,.int .i64 0,.int .i64 0,.slice none 0 0] []) []=some (.t (.ag (encD A1y)),H,nx):=fun _ _ _=>bdZ5
 have st:∀(d:Dv) (R:Heap),A0r 5 ((1,.cells 26 [.t (.v (.int .i64 0)),.t (.v (.string ⟨#[]⟩)),.t (.v (.int .i64 0)),.t (.v (.int .i64 0)),.t (.v (.slice none 0 0))])::R) (.ptr 1 0) (.t (.ag (encD d)))=some ((1,dD d)::R):=fun d R=>by
  obtain⟨kk,nm,f,t,tk,ed⟩:=B1y d;have:dD d = .cells 26 ((encD d).map .t):=rfl;rw[this,ed];simp[A0r,A0y,A3h]
 have o1:=A9r (f:=fLn) ht hs hi (ts:=[]) (o:=C6a a ls i) rfl (H:=[(1,.cells 26 [.t (.v (.int .i64 0)),.t (.v (.string ⟨#[]⟩)),.t (.v (.int .i64 0)),.t (.v (.int .i64 0)),.t (.v (.slice none 0 0))]),(0,rdR a i)]) (b:=0) (nx:=2) rfl (by omega);unfold C6a at o1
 obtain⟨Z,hZ⟩:∃Z:Row,Z = .cells 26 [.t (.v (.int .i64 0)),.t (.v (.string ⟨#[]⟩)),.t (.v (.int .i64 0)),.t (.v (.int .i64 0)),.t (.v (.slice none 0 0))]:=⟨_,rfl⟩
 rw[<-hZ]at o1;simp only[<-hZ]at st;by_cases h:i+1<ls.length
 rotate_left
 ·rw[if_neg h]at o1 ⊢;have o1:hObj 118 (gRdr fLn) [.ptr 0 0] [(1,Z),(0,rdR a i)] 2=some (.t (.tu [sv ⟨#[]⟩,iv 9]),[(1,Z),(0,rdR a i)],2):=o1;refine A1n.keep1 (H':=[(1,dD A1y),(0,rdR a i)]) (nx':=2) (A3g.callP rfl ?_) rfl;(conv in A2s=>cbv);refine A0a C ?_;simp -implicitDefEqProofs;rw[<-hZ];refine A0a C ?_;simp -implicitDefEqProofs [o1];have sz:=st A1y [(0,rdR a i)];refine A0a C ?_;simp -implicitDefEqProofs [bz,sz,-evalK_build];exact C6b A1y 9 (Q:=.ret) rfl rfl rfl rfl
 rw[if_pos h]at o1 ⊢;generalize ls.getD i ⟨#[]⟩=x at *
 obtain⟨k,hk⟩:∃k,k=i+1:=⟨_,rfl⟩
 rw[<-hk]at o1 ⊢;have o1:hObj 118 (gRdr fLn) [.ptr 0 0] [(1,Z),(0,rdR a i)] 2=some (.t (.tu [sv x,iv 0]),[(1,Z),(0,rdR a k)],2):=o1;have eC:=E8z x;by_cases he:(lbs x).take 5=gldW
 ·rw[if_pos he]at eC ⊢;have eP:=D5c (bs ((lbs x).drop 5));rw[show(bs ((lbs x).drop 5)).data.toList=(lbs x).drop 5 from A3j _]at eP
  obtain⟨d,e,hde⟩:∃(d:Dv) (e:Int),parT ((lbs x).drop 5) = .tu [.ag (encD d),iv e]:=by
   unfold parT;split
   ·exact⟨_,_,rfl⟩
   ·exact⟨_,_,rfl⟩
  rw[hde]at eP ⊢;have sd:=st d [(0,rdR a k)];refine A1n.keep1 (H':=[(1,dD d),(0,rdR a k)]) (nx':=2) (A3g.callP rfl ?_) rfl;(conv in A2s=>cbv);refine A0a C ?_;simp -implicitDefEqProofs;rw[<-hZ];refine A0a C ?_;simp -implicitDefEqProofs [o1];refine A0a C ?_;simp -implicitDefEqProofs;refine A0a C ?_;simp -implicitDefEqProofs [eC];refine A0a C ?_;simp -implicitDefEqProofs;refine A0c C ?_;simp -implicitDefEqProofs [eP,sd];exact C6b d e (Q:=.ret) rfl rfl rfl rfl
 ·rw[if_neg he]at eC ⊢;have sz:=st A1y [(0,rdR a k)];refine A1n.keep1 (H':=[(1,dD A1y),(0,rdR a k)]) (nx':=2) (A3g.callP rfl ?_) rfl;(conv in A2s=>cbv);refine A0a C ?_;simp -implicitDefEqProofs;rw[<-hZ];refine A0a C ?_;simp -implicitDefEqProofs [o1];refine A0a C ?_;simp -implicitDefEqProofs;refine A0a C ?_;simp -implicitDefEqProofs [eC];refine A0a C ?_;simp -implicitDefEqProofs [bz,sz,-evalK_build];exact C6b A1y 8 (Q:=.ret) rfl rfl rfl rfl
def fGd (a:T) (ls:List ByteArray) (i:Nat):List T->Option (T×List T)
 | []=>some (C0y a ls i)
 | _=>none
theorem hGd:HOK Tryz.prog (G q) 142 (hObj 118 (gRdr fGd)):=B6p fun {a ls} i ts r cs ht hs hi hf=>by
 unfold fGd at hf;split at hf
 ·injection hf with hf;have:=D8r (q:=q) ht hs i hi;rw[hf]at this;exact this
 ·cases hf
def fDe (a:T) (ls:List ByteArray) (i:Nat):List T->Option (T×List T)
 | []=>some (finO a (lnL ls) [] i)
 | _=>none
theorem hDe47:HOK Tryz.prog (G q) 141 (hObj 118 (gRdr fDe)):=B6p fun {a ls} i ts r cs ht hs hi hf=>by
 unfold fDe at hf;split at hf
 ·injection hf with hf;have:=D8q (q:=q) ht hs i hi;rw[hf]at this;exact this
 ·cases hf
def HIt (a:T) (i:Nat) (e:Int) (x y:Row):Heap:=[(4,.cells 32 [.t (iv e)]),(3,x),(2,y),(1,.cells 115 [.ptr 0 0]),(0,rdR a i)]
abbrev xRow (id:ByteArray) (tw:T) (st:Int) (td:T):Row:=iRow id tw st td 0 ⟨#[]⟩ 0 0 nilS
def fst1 (ls:List ByteArray) (i:Nat):Int×ByteArray×Int×Nat:=
 if i+1<ls.length then
  match parts A5m (lbs (ls.getD i ⟨#[]⟩))with
  | some [id,st]=>match idxW st 0 stN with
   | some k=>(0,bs id,(k:Int),i+1)
   | none=>(8,⟨#[]⟩,0,i+1)
  | _=>(8,⟨#[]⟩,0,i+1)
 else(9,⟨#[]⟩,0,i)
theorem E9a:FnOK Tryz.prog (G q) 138 3 32 A2z []:=by
 obtain⟨fn,h1,h2,h3,h4,h5⟩:=A8s (q:=q);exact⟨fn,h1,h2,h3,h4,by omega⟩
theorem C0z {a:T} {i j:Nat} {e e':Int} {x x' y:Row} (hi:j=i) (he:e'=e) (hx:x'=x) {ex:Exit} (hex:ex = .normal\/ex = .ret) {env:List (Nat×PV)} (hc:∃(ty:Nat) (cs:List T),x = .cells ty (cs.map .t)) (hy:∃(ty:Nat) (cs:List T),y = .cells ty (cs.map .t)) :
  C7e Tryz.prog (G q) 5 [] (fun r0 H0 nx0=>r0 = .t (.tu [])/\H0=HIt a i e x y/\nx0=5) ex ⟨env,HIt a j e' x' y,5,32⟩:=by
 subst hi;subst he;subst hx;exact⟨hex,⟨[],HIt a j e' x' y,5,32⟩,[],A0e (fun z hz=>by cases hz),rfl,rfl,rfl,rfl⟩
theorem C9s {a:T} {ls:List ByteArray} (ht:IsS eStr a ls) (hs:SmL ls) (i:Nat) (hi:i<ls.length) {y:Row} (hy:∃(ty:Nat) (cs:List T),y = .cells ty (cs.map .t)) :
  A1n Tryz.prog (G q) 138 [.ptr 1 0,.ptr 4 0,.ptr 3 0] (HIt a i 0 (xRow ⟨#[]⟩ nilS 0 nilS) y) 5 (.t (.tu [])) (HIt a (fst1 ls i).2.2.2 (fst1 ls i).1 (xRow (fst1 ls i).2.1 nilS (fst1 ls i).2.2.1 nilS) y) 5:=by
 have C:Ctx Tryz.prog (G q) _:=(A0x.cons (hSt (q:=q)) (.cons (hCt (q:=q)) (.cons (hIx (q:=q)) .nil))).ctxH (A1s.cons (hPt (q:=q)) .nil) mixed;have o1:=A9r (f:=fPt) ht hs hi (ts:=[sv ⟨#[105,116,101,109]⟩]) (o:=B2s ⟨#[105,116,101,109]⟩ a ls i) rfl (H:=HIt a i 0 (xRow ⟨#[]⟩ nilS 0 nilS) y) (b:=0) (nx:=5) rfl (by omega);have hw:lbs ⟨#[105,116,101,109]⟩=A5m:=rfl;have lb:∀(k:Nat) (e:Int) (x:Row),A0f false 1 (HIt a k e x y) (.ptr 1 0)=some (.ptr 0 0):=fun _ _ _=>rfl;have le:∀(k:Nat) (e:Int) (x:Row),A0f false 1 (HIt a k e x y) (.ptr 4 0)=some (.t (iv e)):=fun _ _ _=>rfl;have se:∀(k:Nat) (e e':Int) (x:Row),A0r 1 (HIt a k e x y) (.ptr 4 0) (.t (iv e'))=some (HIt a k e' x y):=fun _ _ _ _=>rfl
 have hxc:∀id st,∃(ty:Nat) (cs:List T),xRow id nilS st nilS = .cells ty (cs.map .t):=fun id st=>⟨_,[sv id,nilS,iv st,nilS,iv 0,sv ⟨#[]⟩,iv 0,iv 0,nilS],rfl⟩
 unfold B2s at o1;rw[hw]at o1
 obtain⟨F,hF⟩:∃F,F=fst1 ls i:=⟨_,rfl⟩
 rw[<-hF];unfold fst1 at hF;refine E9a.callP rfl ?_;(conv in A2z=>cbv);refine A0a C ?_;simp -implicitDefEqProofs;by_cases h:i+1<ls.length
 rotate_left
 ·rw[if_neg h]at o1 hF;have o1:hObj 118 (gRdr fPt) [.ptr 0 0,.t (.v (.string ⟨#[105,116,101,109]⟩))] (HIt a i 0 (xRow ⟨#[]⟩ nilS 0 nilS) y) 5=some (.t (.tu [nilS,iv 9]),HIt a i 0 (xRow ⟨#[]⟩ nilS 0 nilS) y,5):=o1;have se:=se i 0 9 (xRow ⟨#[]⟩ nilS 0 nilS);have le:=le i 9 (xRow ⟨#[]⟩ nilS 0 nilS);subst hF;refine A0a C ?_;simp -implicitDefEqProofs [lb,o1,se,le];exact C0z rfl rfl rfl (.inr rfl) (hxc _ _) hy
 rw[if_pos h]at o1 hF
 obtain⟨k,hk⟩:∃k,k=i+1:=⟨_,rfl⟩
 rw[<-hk]at o1 hF
 cases hp:parts A5m (lbs (ls.getD i ⟨#[]⟩))with
 | none=>
  rw[hp]at o1 hF;have o1:hObj 118 (gRdr fPt) [.ptr 0 0,.t (.v (.string ⟨#[105,116,101,109]⟩))] (HIt a i 0 (xRow ⟨#[]⟩ nilS 0 nilS) y) 5=some (.t (.tu [nilS,iv 8]),HIt a k 0 (xRow ⟨#[]⟩ nilS 0 nilS) y,5):=o1;have hF:F=(8,⟨#[]⟩,0,k):=hF;have se:=se k 0 8 (xRow ⟨#[]⟩ nilS 0 nilS);have le:=le k 8 (xRow ⟨#[]⟩ nilS 0 nilS);subst hF;refine A0a C ?_;simp -implicitDefEqProofs [lb,o1,se,le];exact C0z rfl rfl rfl (.inr rfl) (hxc _ _) hy
 | some ws=>
  rw[hp]at o1 hF;have hT:=IsS.mk (e:=eStr) (ws.map bs);have ln:=hT.len;rw[List.length_map]at ln;have o1:hObj 118 (gRdr fPt) [.ptr 0 0,.t (.v (.string ⟨#[105,116,101,109]⟩))] (HIt a i 0 (xRow ⟨#[]⟩ nilS 0 nilS) y) 5=some (.t (.tu [slT eStr (ws.map bs),iv 0]),HIt a k 0 (xRow ⟨#[]⟩ nilS 0 nilS) y,5):=o1;have se0:=se k 0 0 (xRow ⟨#[]⟩ nilS 0 nilS);have le0:=le k 0 (xRow ⟨#[]⟩ nilS 0 nilS);have se8:=se k 0 8 (xRow ⟨#[]⟩ nilS 0 nilS);refine A0a C ?_;simp -implicitDefEqProofs [lb,o1,se0,le0];by_cases h2:ws.length=2
  rotate_left
  ·have hF:F=(8,⟨#[]⟩,0,k):=by
    rw[hF]
    match ws,h2 with
    | [],_=>rfl
    | [_],_=>rfl
    | [_,_],h=>exact absurd rfl h
    | _::_::_::_,_=>rfl
   subst hF
   have hb:((ws.length:Int) != 2)=true:=by simpa using (by omega:¬(ws.length:Int)=2)
   generalize slT eStr (ws.map bs)=TW at *;refine A0a C ?_;simp -implicitDefEqProofs [ln,hb,se8];exact C0z rfl rfl rfl (.inr rfl) (hxc _ _) hy
  obtain⟨id,st,rfl⟩:∃id st,ws=[id,st]:=by
   match ws,h2 with
   | [id,st],_=>exact⟨id,st,rfl⟩
  have j0:A1c 1 (.t (slT eStr ([id,st].map bs))) (.t (iv ((0:Nat):Int)))=_:=hT.iaddr (i:=0) rfl .i64;have j0:A1c 1 (.t (slT eStr ([id,st].map bs))) (.t (.v (.int .i64 0)))=_:=j0;have j1:A1c 1 (.t (slT eStr ([id,st].map bs))) (.t (iv ((1:Nat):Int)))=_:=hT.iaddr (i:=1) rfl .i64;have j1:A1c 1 (.t (slT eStr ([id,st].map bs))) (.t (.v (.int .i64 1)))=_:=j1;have ld:∀(x:ByteArray) (r:List T) (H:Heap),A0f false 1 H (.t (.pt (eStr.enc x++r)))=some (.t (sv x)):=fun _ _ _=>rfl;have ln:A6o (.t (slT eStr ([id,st].map bs)))=some (.t (.v (.int .i64 2))):=ln;have eS:gSt []=some (slT eStr (stN.map bs)):=rfl;have eC:=F6c (bs st) (IsS.mk (e:=eStr) (stN.map bs)) (by decide);have eI:=E4t (bs st) (IsS.mk (e:=eStr) (stN.map bs)) (by decide);have ix:=E4u st stN 0
  obtain⟨TS,hTS⟩:∃TS,TS=slT eStr (stN.map bs):=⟨_,rfl⟩
  rw[<-hTS]at eS eC eI;generalize slT eStr ([id,st].map bs)=TW at *
  have hF:F=(match idxW st 0 stN with
   | some n=>(0,bs id,(n:Int),k)
   | none=>(8,⟨#[]⟩,0,k)):=hF
  cases hx:idxW st 0 stN with
  | none=>
   rw[hx]at ix hF;have hF:F=(8,⟨#[]⟩,0,k):=hF;have ix:idxB (bs st) 0 (stN.map bs) = -1:=ix;rw[ix]at eC;have eC:gCt [TS,sv (bs st)]=some (bv false):=eC;subst hF;refine A0a C ?_;simp -implicitDefEqProofs [ln,eS,j1,ld,eC,se8];exact C0z rfl rfl rfl (.inr rfl) (hxc _ _) hy
  | some n=>
   rw[hx]at ix hF;have hF:F=(0,bs id,(n:Int),k):=hF;have ix:idxB (bs st) 0 (stN.map bs)=(n:Int):=ix;rw[ix]at eC eI
   have eC:gCt [TS,sv (bs st)]=some (bv true):=by rw[eC,decide_eq_true (by omega)]
   subst hF;have w0:A0r 1 (HIt a k 0 (xRow ⟨#[]⟩ nilS 0 nilS) y) (.ptr 3 0) (.t (sv (bs id)))=some (HIt a k 0 (xRow (bs id) nilS 0 nilS) y):=rfl;have w2:A0r 1 (HIt a k 0 (xRow (bs id) nilS 0 nilS) y) (.ptr 3 2) (.t (iv (n:Int)))=some (HIt a k 0 (xRow (bs id) nilS n nilS) y):=rfl;refine A0a C ?_;simp -implicitDefEqProofs [ln,eS,j1,ld,eC];refine A0c C ?_;simp -implicitDefEqProofs [j0,j1,ld,eS,eI,w0,w2];exact C0z rfl rfl rfl (.inl rfl) (hxc _ _) hy
def xCl (id:ByteArray) (tw:T) (st:Int) (td:T) (g:List T):List T:=[sv id,tw,iv st,td]++g
abbrev zD:List T:=[iv 0,sv ⟨#[]⟩,iv 0,iv 0,nilS]
def E9b (a:T) (ls:List ByteArray) (id:ByteArray) (tw td:T) (st:Int) (j:Nat):T×List T:=
 if st=1 then match C0y a ls j with
  | (.tu [.ag g,e],r)=>(.tu [.ag (xCl id tw st td g),e],r)
  | r=>r
 else(.tu [.ag (xCl id tw st td zD),iv 0],[a,iv (j:Int)])
def E9c (a:T) (ls:List ByteArray) (id:ByteArray) (tw:T) (st:Int) (j:Nat):T×List T:=
 match (A4u ((lnL ls).drop j)).1 with
 | none=>(.tu [.ag (xCl id tw st nilS zD),iv 8],[a,iv ((j+(A4u ((lnL ls).drop j)).2:Nat):Int)])
 | some ds=>E9b a ls id tw (A2e eDc ds) st (j+(A4u ((lnL ls).drop j)).2)
def E9d (a:T) (ls:List ByteArray) (id:ByteArray) (st:Int) (j:Nat):T×List T:=
 if j+1<ls.length then match parts A3i (lbs (ls.getD j ⟨#[]⟩))with
  | some ws=>E9c a ls id (slT eStr (ws.map bs)) st (j+1)
  | none=>(.tu [.ag (xCl id nilS st nilS zD),iv 8],[a,iv ((j+1:Nat):Int)])
 else(.tu [.ag (xCl id nilS st nilS zD),iv 9],[a,iv (j:Int)])
def C6c (a:T) (ls:List ByteArray) (i:Nat):T×List T:=
 if(fst1 ls i).1=0 then E9d a ls (fst1 ls i).2.1 (fst1 ls i).2.2.1 (fst1 ls i).2.2.2
 else(.tu [.ag (xCl (fst1 ls i).2.1 nilS (fst1 ls i).2.2.1 nilS zD),iv (fst1 ls i).1],[a,iv ((fst1 ls i).2.2.2:Int)])
def HfI (o:T×List T):Heap:=match o.1 with
 | .tu [.ag cs,e]=>[(4,.cells 32 [.t e]),(3,.cells 28 (cs.map .t)),(2,.cells 28 (cs.map .t)),(1,.cells 115 [.ptr 0 0]),(0,.cells 118 (o.2.map .t))]
 | _=>[(0,.cells 118 (o.2.map .t))]
theorem E9e (o:T×List T):Abs.look (HfI o) 0=some (.cells 118 (o.2.map .t)):=by
 unfold HfI;split<;>rfl
abbrev zItR:Row:=xRow ⟨#[]⟩ nilS 0 nilS
theorem E4v {a:T} {i j:Nat} {e e':Int} {x x' y y':Row}:(∀b r,Abs.look (HIt a i e x y) b=some r->b<5)->∀b r,Abs.look (HIt a j e' x' y') b=some r->b<5:=fun _ b r h=>by
 unfold HIt at h;simp only[Abs.look]at h
 repeat' (split at h;· omega)
 cases h
theorem F3g {ls:List ByteArray} {i:Nat} (h:(fst1 ls i).1=0):(fst1 ls i).2.2.2<ls.length:=by
 unfold fst1 at h ⊢;split
 ·rename_i hi;rw[if_pos hi]at h
  repeat' split
  all_goals exact hi
 ·rename_i hi;rw[if_neg hi]at h;cases h
theorem C3u {a:T} {j:Nat} {e:Int} {id:ByteArray} {tw td tk:T} {st k f t:Int} {nm:ByteArray} {o:T×List T} (ho:o=(.tu [.ag [sv id,tw,iv st,td,iv k,sv nm,iv f,iv t,tk],iv e],[a,iv (j:Int)])) {env:List (Nat×PV)} (h2:Abs.look env 2=some (.ptr 2 0)) (h3:Abs.look env 3=some (.t (iv e))) :
  C7e Tryz.prog (G q) 1 [.cell 2 true 9,.tmp 3] (fun r0 H0 nx0=>r0 = .t o.1/\H0=HfI o/\nx0=5) .ret ⟨env,HIt a j e (iRow id tw st td k nm f t tk) (iRow id tw st td k nm f t tk),5,45⟩:=by
 subst ho;refine⟨.inr rfl,⟨[(2,.ptr 2 0),(3,.t (iv e))],HIt a j e (iRow id tw st td k nm f t tk) (iRow id tw st td k nm f t tk),5,45⟩,[.t (.ag [sv id,tw,iv st,td,iv k,sv nm,iv f,iv t,tk]),.t (iv e)],A0e (fun z hz=>?_),rfl,rfl,rfl,rfl⟩;simp only[List.mem_cons,List.not_mem_nil,or_false]at hz;rcases hz with rfl | rfl
 ·exact h2
 ·exact h3
theorem D8s {a:T} {ls:List ByteArray} (ht:IsS eStr a ls) (hs:SmL ls) (i:Nat) (hi:i<ls.length):A1n Tryz.prog (G q) 93 [.ptr 0 0] [(0,rdR a i)] 1 (.t (C6c a ls i).1) [(0,.cells 118 ((C6c a ls i).2.map .t))] 1:=by
 have hz:∃(ty:Nat) (cs:List T),zItR = .cells ty (cs.map .t):=⟨_,[sv ⟨#[]⟩,nilS,iv 0,nilS,iv 0,sv ⟨#[]⟩,iv 0,iv 0,nilS],rfl⟩
 have c1:=C9s (q:=q) ht hs i hi (y:=zItR) hz;have C:Ctx Tryz.prog (G q) _:=A0x.nil.ctxH (A1s.cons (A2x c1 E4v) (.cons (hPt (q:=q)) (.cons (hDe47 (q:=q)) (.cons (hGd (q:=q)) .nil)))) mixed;have o1:hOne [.ptr 1 0,.ptr 4 0,.ptr 3 0] (HIt a i 0 (xRow ⟨#[]⟩ nilS 0 nilS) zItR) 5 (.t (.tu []),HIt a (fst1 ls i).2.2.2 (fst1 ls i).1 (xRow (fst1 ls i).2.1 nilS (fst1 ls i).2.2.1 nilS) zItR,5) [.ptr 1 0,.ptr 4 0,.ptr 3 0] [(4,.cells 32 [.t (.v (.int .i64 0))]),(3,.cells 28 [.t (.v (.string ⟨#[]⟩)),.t (.v (.slice none 0 0)),.t (.v (.int .i64 0)),.t (.v (.slice none 0 0)),.t (.v (.int .i64 0)),.t (.v (.string ⟨#[]⟩)),.t (.v (.int .i64 0)),.t (.v (.int .i64 0)),.t (.v (.slice none 0 0))]),(2,.cells 28 [.t (.v (.string ⟨#[]⟩)),.t (.v (.slice none 0 0)),.t (.v (.int .i64 0)),.t (.v (.slice none 0 0)),.t (.v (.int .i64 0)),.t (.v (.string ⟨#[]⟩)),.t (.v (.int .i64 0)),.t (.v (.int .i64 0)),.t (.v (.slice none 0 0))]),(1,.cells 115 [.ptr 0 0]),(0,rdR a i)] 5=_:=A2j [.ptr 1 0,.ptr 4 0,.ptr 3 0] (HIt a i 0 (xRow ⟨#[]⟩ nilS 0 nilS) zItR) 5 (.t (.tu []),HIt a (fst1 ls i).2.2.2 (fst1 ls i).1 (xRow (fst1 ls i).2.1 nilS (fst1 ls i).2.2.1 nilS) zItR,5);have hF:=@F3g ls i;have lb:∀(k:Nat) (e:Int) (x y:Row),A0f false 1 (HIt a k e x y) (.ptr 1 0)=some (.ptr 0 0):=fun _ _ _ _=>rfl;have le:∀(k:Nat) (e:Int) (x y:Row),A0f false 1 (HIt a k e x y) (.ptr 4 0)=some (.t (iv e)):=fun _ _ _ _=>rfl;have se:∀(k:Nat) (e e':Int) (x y:Row),A0r 1 (HIt a k e x y) (.ptr 4 0) (.t (iv e'))=some (HIt a k e' x y):=fun _ _ _ _ _=>rfl;have l9:∀(k:Nat) (e:Int) (id:ByteArray) (tw:T) (st:Int) (td:T) (kk:Int) (nm:ByteArray) (f t:Int) (tk:T) (y:Row),A0f true 9 (HIt a k e (iRow id tw st td kk nm f t tk) y) (.ptr 3 0)=some (.t (.ag [sv id,tw,iv st,td,iv kk,sv nm,iv f,iv t,tk])):=fun _ _ _ _ _ _ _ _ _ _ _ _=>rfl;have s9:∀(k:Nat) (e:Int) (id:ByteArray) (tw:T) (st:Int) (td:T) (kk:Int) (nm:ByteArray) (f t:Int) (tk:T) (x:Row),A0r 9 (HIt a k e x zItR) (.ptr 2 0) (.t (.ag [sv id,tw,iv st,td,iv kk,sv nm,iv f,iv t,tk]))=some (HIt a k e x (iRow id tw st td kk nm f t tk)):=fun _ _ _ _ _ _ _ _ _ _ _ _=>rfl
 have sw:∀(k:Nat) (e:Int) (id:ByteArray) (tw tw':T) (st:Int) (td:T) (y:Row),A0y (.t tw')=some [.t tw']->A0r 1 (HIt a k e (xRow id tw st td) y) (.ptr 3 1) (.t tw')=some (HIt a k e (xRow id tw' st td) y):=fun _ _ _ _ _ _ _ _ h=>by unfold A0r;simp only[h];rfl
 have sd:∀(k:Nat) (e:Int) (id:ByteArray) (tw:T) (st:Int) (td td':T) (y:Row),A0y (.t td')=some [.t td']->A0r 1 (HIt a k e (xRow id tw st td) y) (.ptr 3 3) (.t td')=some (HIt a k e (xRow id tw st td') y):=fun _ _ _ _ _ _ _ _ h=>by unfold A0r;simp only[h];rfl
 have lst:∀(k:Nat) (e:Int) (id:ByteArray) (tw:T) (st:Int) (td:T) (y:Row),A0f false 1 (HIt a k e (xRow id tw st td) y) (.ptr 3 2)=some (.t (iv st)):=fun _ _ _ _ _ _ _=>rfl;have sg:∀(k:Nat) (e:Int) (id:ByteArray) (tw:T) (st:Int) (td:T) (kk:Int) (nm:ByteArray) (f t:Int) (tk:T) (y:Row),A0r 5 (HIt a k e (xRow id tw st td) y) (.ptr 3 4) (.t (.ag [iv kk,sv nm,iv f,iv t,tk]))=some (HIt a k e (iRow id tw st td kk nm f t tk) y):=fun _ _ _ _ _ _ _ _ _ _ _ _=>rfl
 obtain⟨O,hO⟩:∃O,O=C6c a ls i:=⟨_,rfl⟩
 rw[<-hO];refine A1n.keep1 (H':=HfI O) (nx':=5) (A9y.callP rfl ?_) (E9e O);unfold C6c at hO;generalize fst1 ls i=F at *;obtain⟨e1,id,st,j⟩:=F;simp only at o1 hF hO;(conv in A5h=>cbv);refine A0a C ?_;simp -implicitDefEqProofs;refine A0a C ?_;simp -implicitDefEqProofs;refine A0a C ?_;simp -implicitDefEqProofs;have em:exM (.mkf (.func 138) 0) [.ptr 1 0,.ptr 4 0,.ptr 3 0]=some (.fn (.func 138) [] [.ptr 1 0,.ptr 4 0,.ptr 3 0]):=rfl;refine A0a C ?_;simp -implicitDefEqProofs [em];have fin:∀(e:Int) (id:ByteArray) (tw td:T) (st:Int) (k:Nat),O=(.tu [.ag (xCl id tw st td zD),iv e],[a,iv (k:Int)])->O=(.tu [.ag [sv id,tw,iv st,td,iv 0,sv ⟨#[]⟩,iv 0,iv 0,nilS],iv e],[a,iv (k:Int)]):=fun _ _ _ _ _ _ h=>h;by_cases h1:e1=0
 rotate_left
 ·rw[if_neg h1]at hO
  have hb:(e1 != 0)=true:=by simpa using h1
  have l9:=l9 j e1 id nilS st nilS 0 ⟨#[]⟩ 0 0 nilS zItR;have s9:=s9 j e1 id nilS st nilS 0 ⟨#[]⟩ 0 0 nilS (xRow id nilS st nilS);have le:=fun y=>le j e1 (xRow id nilS st nilS) y;refine A0a C ?_;simp -implicitDefEqProofs [o1,le,hb,l9,s9];exact C3u (fin _ _ _ _ _ _ hO) rfl rfl
 rw[if_pos h1]at hO;have hj:=hF h1;subst h1;unfold E9d at hO;have p1:=A9r (f:=fPt) ht hs hj (ts:=[sv ⟨#[119,111,114,100,115]⟩]) (o:=B2s ⟨#[119,111,114,100,115]⟩ a ls j) rfl (H:=HIt a j 0 (xRow id nilS st nilS) zItR) (b:=0) (nx:=5) rfl (by omega);have hw:lbs ⟨#[119,111,114,100,115]⟩=A3i:=rfl;unfold B2s at p1;rw[hw]at p1;have le0:=le j 0 (xRow id nilS st nilS) zItR;have lb0:=lb j 0 (xRow id nilS st nilS) zItR;refine A0a C ?_;simp -implicitDefEqProofs [o1,le0];have stop:∀(tw:T) (k:Nat) (e:Int),e≠0->O=(.tu [.ag (xCl id tw st nilS zD),iv e],[a,iv (k:Int)])->True:=fun _ _ _ _ _=>trivial;clear stop;by_cases h2:j+1<ls.length
 rotate_left
 ·rw[if_neg h2]at hO p1;have p1:hObj 118 (gRdr fPt) [.ptr 0 0,.t (.v (.string ⟨#[119,111,114,100,115]⟩))] (HIt a j 0 (xRow id nilS st nilS) zItR) 5=some (.t (.tu [nilS,iv 9]),HIt a j 0 (xRow id nilS st nilS) zItR,5):=p1;have sw:=sw j 0 id nilS nilS st nilS zItR rfl;have se:=se j 0 9 (xRow id nilS st nilS) zItR;have le:=fun y=>le j 9 (xRow id nilS st nilS) y;have l9:=l9 j 9 id nilS st nilS 0 ⟨#[]⟩ 0 0 nilS zItR;have s9:=s9 j 9 id nilS st nilS 0 ⟨#[]⟩ 0 0 nilS (xRow id nilS st nilS);refine A0a C ?_;simp -implicitDefEqProofs [lb0,p1,sw,se,le,l9,s9];exact C3u (fin _ _ _ _ _ _ hO) rfl rfl
 rw[if_pos h2]at hO p1
 cases hp:parts A3i (lbs (ls.getD j ⟨#[]⟩))with
 | none=>
  rw[hp]at hO p1
  obtain⟨k,hk⟩:∃k,k=j+1:=⟨_,rfl⟩
  have p1:hObj 118 (gRdr fPt) [.ptr 0 0,.t (.v (.string ⟨#[119,111,114,100,115]⟩))] (HIt a j 0 (xRow id nilS st nilS) zItR) 5=some (.t (.tu [nilS,iv 8]),HIt a k 0 (xRow id nilS st nilS) zItR,5):=by rw[hk];exact p1
  have hO:O=(.tu [.ag (xCl id nilS st nilS zD),iv 8],[a,iv (k:Int)]):=by rw[hk];exact hO
  have sw:=sw k 0 id nilS nilS st nilS zItR rfl;have se:=se k 0 8 (xRow id nilS st nilS) zItR;have le:=fun y=>le k 8 (xRow id nilS st nilS) y;have l9:=l9 k 8 id nilS st nilS 0 ⟨#[]⟩ 0 0 nilS zItR;have s9:=s9 k 8 id nilS st nilS 0 ⟨#[]⟩ 0 0 nilS (xRow id nilS st nilS);refine A0a C ?_;simp -implicitDefEqProofs [lb0,p1,sw,se,le,l9,s9];exact C3u (fin _ _ _ _ _ _ hO) rfl rfl
 | some ws=>
  rw[hp]at hO p1
  obtain⟨k,hk⟩:∃k,k=j+1:=⟨_,rfl⟩
  have hkl:k<ls.length:=by omega
  have ctw:A0y (.t (slT eStr (ws.map bs)))=some [.t (slT eStr (ws.map bs))]:=rfl
  have p1:hObj 118 (gRdr fPt) [.ptr 0 0,.t (.v (.string ⟨#[119,111,114,100,115]⟩))] (HIt a j 0 (xRow id nilS st nilS) zItR) 5=some (.t (.tu [slT eStr (ws.map bs),iv 0]),HIt a k 0 (xRow id nilS st nilS) zItR,5):=by rw[hk];exact p1
  have hO:O=E9c a ls id (slT eStr (ws.map bs)) st k:=by rw[hk];exact hO
  generalize slT eStr (ws.map bs)=tw at *;have sw:=sw k 0 id nilS tw st nilS zItR ctw;have se0:=se k 0 0 (xRow id tw st nilS) zItR;have le0:=le k 0 (xRow id tw st nilS) zItR;refine A0a C ?_;simp -implicitDefEqProofs [lb0,p1,sw,se0,le0];have p2:=A9r (f:=fDe) ht hs hkl (ts:=[]) (o:=finO a (lnL ls) [] k) rfl (H:=HIt a k 0 (xRow id tw st nilS) zItR) (b:=0) (nx:=5) rfl (by omega);have lb1:=lb k 0 (xRow id tw st nilS) zItR;unfold finO at p2;unfold E9c at hO;have hdl:=(C0x ((lnL ls).drop k)).1
  have hm:k+(A4u ((lnL ls).drop k)).2<ls.length:=by
   rw[List.length_drop]at hdl
   have:(lnL ls).length=ls.length-1:=by simp[lnL]
   omega
  obtain⟨m,hmm⟩:∃m,m=k+(A4u ((lnL ls).drop k)).2:=⟨_,rfl⟩
  rw[<-hmm]at hO p2 hm
  cases hd:(A4u ((lnL ls).drop k)).1 with
  | none=>
   rw[hd]at hO p2;have p2:hObj 118 (gRdr fDe) [.ptr 0 0] (HIt a k 0 (xRow id tw st nilS) zItR) 5=some (.t (.tu [nilS,iv 8]),HIt a m 0 (xRow id tw st nilS) zItR,5):=p2;have sd:=sd m 0 id tw st nilS nilS zItR rfl;have se:=se m 0 8 (xRow id tw st nilS) zItR;have le:=fun y=>le m 8 (xRow id tw st nilS) y;have l9:=l9 m 8 id tw st nilS 0 ⟨#[]⟩ 0 0 nilS zItR;have s9:=s9 m 8 id tw st nilS 0 ⟨#[]⟩ 0 0 nilS (xRow id tw st nilS);refine A0a C ?_;simp -implicitDefEqProofs [lb1,p2,sd,se,le,l9,s9];exact C3u (fin _ _ _ _ _ _ hO) rfl rfl
  | some ds=>
   rw[hd]at hO p2
   have ctd:A0y (.t (A2e eDc ds))=some [.t (A2e eDc ds)]:=by cases ds<;>rfl
   have p2:hObj 118 (gRdr fDe) [.ptr 0 0] (HIt a k 0 (xRow id tw st nilS) zItR) 5=some (.t (.tu [A2e eDc ds,iv 0]),HIt a m 0 (xRow id tw st nilS) zItR,5):=p2;have hO:O=E9b a ls id tw (A2e eDc ds) st m:=hO;generalize A2e eDc ds=td at *;have sd:=sd m 0 id tw st nilS td zItR ctd;have se0:=se m 0 0 (xRow id tw st td) zItR;have le0:=le m 0 (xRow id tw st td) zItR;refine A0a C ?_;simp -implicitDefEqProofs [lb1,p2,sd,se0,le0];unfold E9b at hO;have lst:=lst m 0 id tw st td zItR;have lb2:=lb m 0 (xRow id tw st td) zItR;by_cases h3:st=1
   ·rw[if_pos h3]at hO
    have hb:(st==1)=true:=by simpa using h3
    obtain⟨g,e,n,hg⟩:∃(g:Dv) (e:Int) (n:Nat),C0y a ls m=(.tu [.ag (encD g),iv e],[a,iv (n:Int)]):=by
     unfold C0y;split
     ·split
      ·unfold parT;split
       ·exact⟨_,_,_,rfl⟩
       ·exact⟨_,_,_,rfl⟩
      ·exact⟨_,_,_,rfl⟩
     ·exact⟨_,_,_,rfl⟩
    obtain⟨kk,nm,f,t,tk,eg⟩:=B1y g;have p3:=A9r (f:=fGd) ht hs hm (ts:=[]) (o:=C0y a ls m) rfl (H:=HIt a m 0 (xRow id tw st td) zItR) (b:=0) (nx:=5) rfl (by omega);rw[hg,eg]at p3 hO;have p3:hObj 118 (gRdr fGd) [.ptr 0 0] (HIt a m 0 (xRow id tw st td) zItR) 5=some (.t (.tu [.ag [iv kk,sv nm,iv f,iv t,tk],iv e]),HIt a n 0 (xRow id tw st td) zItR,5):=p3;have sg:=sg n 0 id tw st td kk nm f t tk zItR;have se:=se n 0 e (iRow id tw st td kk nm f t tk) zItR;have le:=fun y=>le n e (iRow id tw st td kk nm f t tk) y;have l9:=l9 n e id tw st td kk nm f t tk zItR;have s9:=s9 n e id tw st td kk nm f t tk (iRow id tw st td kk nm f t tk);refine A0a C ?_;simp -implicitDefEqProofs [lst,hb,lb2,p3,sg,se];refine A0a C ?_;simp -implicitDefEqProofs [le,l9,s9];refine A0c C ?_;simp -implicitDefEqProofs;exact C3u hO rfl rfl
   ·rw[if_neg h3]at hO
    have hb:(st==1)=false:=by simpa using h3
    have l9:=l9 m 0 id tw st td 0 ⟨#[]⟩ 0 0 nilS zItR;have s9:=s9 m 0 id tw st td 0 ⟨#[]⟩ 0 0 nilS (xRow id tw st td);have le0:=fun y=>le m 0 (xRow id tw st td) y;refine A0a C ?_;simp -implicitDefEqProofs [lst,hb];refine A0a C ?_;simp -implicitDefEqProofs [le0,l9,s9];refine A0c C ?_;simp -implicitDefEqProofs;exact C3u (fin _ _ _ _ _ _ hO) rfl rfl
def E4w (a:T) (ls:List ByteArray) (i:Nat):List T->Option (T×List T)
 | []=>some (C6c a ls i)
 | _=>none
theorem hIt47:HOK Tryz.prog (G q) 93 (hObj 118 (gRdr E4w)):=B6p fun {a ls} i ts r cs ht hs hi hf=>by
 unfold E4w at hf;split at hf
 ·injection hf with hf;have:=D8s (q:=q) ht hs i hi;rw[hf]at this;exact this
 ·cases hf
mutual
theorem D5l:∀d:Dv,nodD d<=(prtD d).length
 | .mk k n f t ks=>by
  have:=D5m ks;rw[nodD,prtD];simp only[List.length_cons,List.length_append];omega
theorem D5m:∀l:List Dv,nodK l<=(prtK l).length
 | []=>by simp[nodK]
 | d::r=>by
  have h1:=D5l d;have h2:=D5m r;rw[nodK,prtK];simp only[List.length_cons,List.length_append];omega
end
mutual
theorem C9t:∀d:Dv,(prtD d).length<=2000000->A8k d
 | .mk k n f t ks,h=>by
  rw[prtD]at h;simp only[List.length_cons,List.length_append,B1e]at h;rw[A8k];exact⟨by omega,C3v ks (by omega)⟩
theorem C3v:∀l:List Dv,(prtK l).length<=2000000->A6f l
 | [],_=>by rw[A6f];trivial
 | d::r,h=>by
  rw[prtK]at h;simp only[List.length_cons,List.length_append]at h;rw[A6f];exact⟨C9t d (by omega),C3v r (by omega)⟩
end
theorem E9f (l:List UInt8):-9223372036854775808<=(numS l).1/\(numS l).1<=9223372036854775807:=by
 rw[A7v];split
 ·exact⟨by decide,by decide⟩
 ·split
  ·split
   ·constructor
    ·show -9223372036854775808 <= -(decV 0 (dOf l):Int);omega
    ·show -(decV 0 (dOf l):Int)<=9223372036854775807;omega
   ·exact⟨by decide,by decide⟩
  ·split
   ·constructor
    ·show -9223372036854775808<=(decV 0 (dOf l):Int);omega
    ·show(decV 0 (dOf l):Int)<=9223372036854775807;omega
   ·exact⟨by decide,by decide⟩
theorem C9u {s r:List UInt8} {n:Int} (h:A6k s = .ok (n,r)):-9223372036854775808<=n/\n<=9223372036854775807:=by
 unfold A6k at h;simp only at h;split at h
 ·cases h
 ·split at h
  ·injection h with h;injection h with h1 h2;rw[<-h1];exact E9f _
  ·cases h
theorem D8t {s r:List UInt8} {h:Hd} (e:B2i s = .ok (h,r)):(-9223372036854775808<=h.frm/\h.frm<=9223372036854775807)/\(-9223372036854775808<=h.to/\h.to<=9223372036854775807):=by
 obtain⟨⟨n,s1⟩,e1,e⟩:=A2l e;obtain⟨s2,e2,e⟩:=A2l e;obtain⟨⟨f,s3⟩,e3,e⟩:=A2l e;obtain⟨s4,e4,e⟩:=A2l e;obtain⟨⟨t,s5⟩,e5,e⟩:=A2l e;injection e with e;injection e with e6 e7;subst e6;exact⟨C9u e3,C9u e5⟩
theorem D5n:∀{a b:List Dv},IntK a->IntK b->IntK (a++b)
 | [],_,_,h=>h
 | d::r,b,h,k=>by
  rw[IntK]at h;rw[List.cons_append,IntK];exact⟨h.1,D5n h.2 k⟩
theorem C3w {rd:List UInt8->Except Int (Dv×List UInt8)} (hrd:∀s d r,rd s = .ok (d,r)->IntD d):∀(n:Nat) (lex:Bool) (acc:List Dv) (s:List UInt8) (ks:List Dv) (r:List UInt8),IntK acc->A2d rd n lex acc s = .ok (ks,r)->IntK ks
 | 0,lex,acc,s,ks,r,ha,h=>by
  rw[A2d]at h
  ·injection h with h;injection h with h1 h2;rw[<-h1];exact ha
  ·intros;omega
 | n+1,lex,acc,s,ks,r,ha,h=>by
  by_cases hs:∃t,s=32::t
  ·obtain⟨t,rfl⟩:=hs;rw[A2d]at h;split at h
   ·injection h with h;injection h with h1 h2;rw[<-h1];exact ha
   ·split at h
    ·cases h
    ·rename_i d r' e;exact C3w hrd n lex _ _ _ _ (D5n ha (by rw[IntK,IntK];exact⟨hrd _ _ _ e,trivial⟩)) h
  ·rw[A2d]at h
   ·injection h with h;injection h with h1 h2;rw[<-h1];exact ha
   ·intro n' t _ e;exact hs ⟨t,e⟩
theorem C3x:∀(k:Nat) (s:List UInt8) (d:Dv) (r:List UInt8),A2i k s = .ok (d,r)->IntD d
 | _,[],d,r,h=>by cases ‹Nat› <;> cases h
 | 0,c::s,d,r,h=>by
  rw[A2i]at h;split at h<;>cases h
 | k+1,c::s,d,r,h=>by
  rw[A2i]at h;split at h
  ·obtain⟨⟨hh,s1⟩,e1,h⟩:=A2l h;obtain⟨⟨ks,s2⟩,e2,h⟩:=A2l h;simp only at h;split at h
   ·cases h
   ·obtain⟨s3,e3,h⟩:=A2l h;injection h with h;injection h with h1 h2;subst h1;have k1:=D8t e1;have k2:=C3w (fun s d r=>C3x k s d r) _ _ _ _ _ _ (by rw[IntK];trivial) e2;rw[IntD];exact⟨by unfold A2h;repeat' (first | split | (constructor<;>decide)),k1.1,k1.2,k2⟩
  ·cases h
theorem E4x {s:List UInt8} {d:Dv} (h:parD s = .ok d):Wd d:=by
 have e:=D0z h;unfold parD at h;split at h
 ·cases h
 ·rename_i hs;rw[<-e]at hs;split at h
  ·cases h
  ·rename_i d' e';cases h;exact⟨C9t _ (by omega),C3x _ _ _ _ e',by have:=D5l d;omega⟩
  ·cases h
theorem B3u {l:List UInt8} {ws:List (List UInt8)} (h:A2y l=some ws):ws.length<=l.length+1/\∀w∈ws,w.length<=l.length:=by
 have e:=B4u h;refine⟨?_,fun w hw=>by have:=D2h hw;rw[e]at this;exact this⟩
 have:∀ws:List (List UInt8),ws.length<=(jn ws).length+1:=by
  intro ws
  induction ws with
  | nil=>simp
  | cons a r ih=>
   cases r with
   | nil=>simp
   | cons b r=>
    rw[jn]
    ·simp only[List.length_cons,List.length_append]at ih ⊢;omega
    ·simp
 have:=this ws;rw[e]at this;exact this
theorem B6q {first l:List UInt8} {ws:List (List UInt8)} (h:parts first l=some ws):ws.length<=l.length/\∀w∈ws,w.length<=l.length:=by
 unfold parts at h;split at h
 ·rename_i w r hw;split at h
  ·cases h;obtain⟨h1,h2⟩:=B3u hw;simp only[List.length_cons]at h1;exact⟨by omega,fun x hx=>h2 x (by simp[hx])⟩
  ·cases h
 ·cases h
theorem C9v {w:List (List UInt8)} {d:Dc} (h:decP w=some d) {n:Nat} (hn:∀x∈w,x.length<=n):d.p.name.size<=n:=by
 unfold decP at h;split at h
 ·split at h
  ·cases h
  ·split at h
   ·cases h
   ·cases h;simp only;split
    ·exact Nat.zero_le _
    ·rw[A0l];exact hn _ (by simp)
 ·cases h
theorem C3y {n:Nat}:∀{l:List (List UInt8)} {ds:List Dc},(A4u l).1=some ds->(∀x∈l,x.length<=n)->∀d∈ds,d.p.name.size<=n
 | [],ds,h,_,d,hd=>by cases h;cases hd
 | x::r,ds,h,hx,d,hd=>by
  rw[A4u]at h;split at h
  ·split at h
   ·cases h
   ·rename_i w hw;split at h
    ·cases h
    ·rename_i d' hd';simp only[Option.map_eq_some_iff]at h;obtain⟨es,he,rfl⟩:=h;rcases List.mem_cons.1 hd with rfl | hd
     ·exact C9v hd' fun y hy=>by have:=(B3u hw).2 y hy;have:=hx x (by simp);omega
     ·exact C3y he (fun y hy=>hx y (by simp[hy])) d hd
  ·cases h;cases hd
def encW (x:It):List T:=[sv x.id,slT eStr x.words,iv x.state,A2e eDc x.decs]++encD x.gold
theorem E4y (x:It):IsIt x (encW x):=⟨_,_,_,rfl,IsS.mk _,IsS.tree _ _,IsD.enc _⟩
def icW (x:It):IC:=⟨x,encW x,E4y x⟩
theorem D2i (ls:List ByteArray):(lnL ls).length=ls.length-1:=by simp[lnL]
theorem B3v {ls:List ByteArray} {j:Nat} (h:j+1<ls.length):(lnL ls).drop j=lbs (ls.getD j ⟨#[]⟩)::(lnL ls).drop (j+1):=by
 have hl:=D2i ls;rw[List.drop_eq_getElem_cons (by omega)];congr 1
 have h2:(lnL ls)[j]?=some (lbs (ls.getD j ⟨#[]⟩)):=by
  rw[List.getElem?_dropLast,if_pos (by rw[List.length_map];omega),List.getElem?_map,getD_some (by omega:j<ls.length)];rfl
 exact(List.getElem?_eq_some_iff.1 h2).2
theorem B1z {ls:List ByteArray} {j:Nat} (h:¬j+1<ls.length):(lnL ls).drop j=[]:=by
 have hl:=D2i ls;exact List.drop_of_length_le (by omega)
theorem F3h {ls:List ByteArray} (hs:SmL ls):∀x∈lnL ls,x.length<=1000000:=fun x hx=>by
 obtain⟨y,hy,rfl⟩:=List.mem_map.1 (List.dropLast_subset _ hx);rw[B1e];exact hs.size y hy
theorem C1a {ls:List ByteArray} (hs:SmL ls) {j:Nat} (h:j<ls.length):(lbs (ls.getD j ⟨#[]⟩)).length<=1000000:=by
 rw[B1e];exact hs.size _ (List.mem_of_getElem? (getD_some h))
theorem F3i (a:T) {ls:List ByteArray} {m:Nat} (hm:m<ls.length):match A7h ((lnL ls).drop m)with
  | .ok (g,r)=>∃j:Nat,m<j/\j<ls.length/\r=(lnL ls).drop j/\C0y a ls m=(.tu [.ag (encD g),iv 0],[a,iv (j:Int)])/\Wd g
  | .error e=>e≠0/\∃j:Nat,C0y a ls m=(.tu [.ag (encD A1y),iv e],[a,iv (j:Int)]):=by
 unfold C0y;by_cases h:m+1<ls.length
 ·rw[if_pos h,B3v h,A7h];have e:(lbs (ls.getD m ⟨#[]⟩)).take 5=gldW ↔ (lbs (ls.getD m ⟨#[]⟩)).take 5=[103,111,108,100,32]:=Iff.rfl
  by_cases h5:(lbs (ls.getD m ⟨#[]⟩)).take 5=[103,111,108,100,32]
  ·rw[if_pos h5,if_pos (e.2 h5)];unfold parT
   cases hp:parD ((lbs (ls.getD m ⟨#[]⟩)).drop 5)with
   | error e=>exact⟨D1x hp,_,rfl⟩
   | ok d=>exact⟨m+1,by omega,h,rfl,rfl,E4x hp⟩
  ·rw[if_neg h5,if_neg (fun k=>h5 (e.1 k))];exact⟨by decide,_,rfl⟩
 ·rw[if_neg h,B1z h,A7h];exact⟨by decide,_,rfl⟩
theorem wdZ:Wd A1y:=⟨by simp[A1y,A8k,A6f];decide,by simp[A1y,IntD,IntK],by decide⟩
theorem F3j (a:T) {ls:List ByteArray} (hs:SmL ls) {i:Nat} (hi:i<ls.length):match B0m ((lnL ls).drop i)with
  | .ok (x,r)=>∃j:Nat,i<j/\j<ls.length/\r=(lnL ls).drop j/\C6c a ls i=(.tu [.ag (encW x),iv 0],[a,iv (j:Int)])/\SmI x
  | .error e=>e≠0/\∃(j:Nat) (id:ByteArray) (tw:T) (st:Int) (td:T) (g:Dv),C6c a ls i=(.tu [.ag (xCl id tw st td (encD g)),iv e],[a,iv (j:Int)]):=by
 have hzD:zD=encD A1y:=rfl;unfold C6c;by_cases h:i+1<ls.length
 rotate_left
 ·have hf:fst1 ls i=(9,⟨#[]⟩,0,i):=by unfold fst1;rw[if_neg h]
  rw[hf,B1z h,B0m,if_neg (show ¬(9:Int)=0 by decide)];exact⟨by decide,i,⟨#[]⟩,nilS,0,nilS,A1y,rfl⟩
 rw[B3v h,B0m]
 have hf:fst1 ls i=match parts A5m (lbs (ls.getD i ⟨#[]⟩))with
  | some [id,st]=>match idxW st 0 stN with
   | some k=>(0,bs id,(k:Int),i+1)
   | none=>(8,⟨#[]⟩,0,i+1)
  | _=>(8,⟨#[]⟩,0,i+1):=by unfold fst1;exact if_pos h
 have bad:fst1 ls i=(8,⟨#[]⟩,0,i+1)->(8:Int)≠0/\∃(j:Nat) (id:ByteArray) (tw:T) (st:Int) (td:T) (g:Dv),(if(fst1 ls i).1=0 then E9d a ls (fst1 ls i).2.1 (fst1 ls i).2.2.1 (fst1 ls i).2.2.2
   else(.tu [.ag (xCl (fst1 ls i).2.1 nilS (fst1 ls i).2.2.1 nilS zD),iv (fst1 ls i).1],[a,iv ((fst1 ls i).2.2.2:Int)]))=(.tu [.ag (xCl id tw st td (encD g)),iv 8],[a,iv (j:Int)]):=fun hf=>by
  rw[hf,if_neg (show ¬(8:Int)=0 by decide)];exact⟨by decide,i+1,⟨#[]⟩,nilS,0,nilS,A1y,rfl⟩
 cases hp:parts A5m (lbs (ls.getD i ⟨#[]⟩))with
 | none=>rw[hp]at hf;exact bad hf
 | some ws=>
  rw[hp]at hf;have hsz:=(B6q hp).2;have hl0:=C1a hs hi
  match ws,hf,hsz with
  | [],hf,_=>exact bad hf
  | [_],hf,_=>exact bad hf
  | _::_::_::_,hf,_=>exact bad hf
  | [id,st],hf,hsz=>
  simp only at hf ⊢;have hid:=hsz id (by simp)
  cases hx:idxW st 0 stN with
  | none=>rw[hx]at hf;exact bad hf
  | some k=>
  rw[hx]at hf;rw[hf,if_pos rfl];simp only;clear bad
  obtain⟨j,hj⟩:∃j,j=i+1:=⟨_,rfl⟩
  rw[<-hj]
  have hjl:j<ls.length:=by omega
  unfold E9d;by_cases h2:j+1<ls.length
  rotate_left
  ·rw[B1z h2,if_neg h2];exact⟨by decide,j,_,nilS,_,nilS,A1y,rfl⟩
  rw[B3v h2,if_pos h2];simp only;have hl1:=C1a hs hjl
  cases hp2:parts A3i (lbs (ls.getD j ⟨#[]⟩))with
  | none=>exact⟨by decide,j+1,_,nilS,_,nilS,A1y,rfl⟩
  | some ws=>
  simp only;obtain⟨hw1,hw2⟩:=B6q hp2;rw[C9r];unfold E9c;have hdl:=C0x ((lnL ls).drop (j+1));have hln:=D2i ls;rw[List.length_drop]at hdl
  cases hd:(A4u ((lnL ls).drop (j+1))).1 with
  | none=>exact⟨by decide,_,_,_,_,nilS,A1y,rfl⟩
  | some ds=>
  simp only;rw[List.drop_drop];have hdn:=C3y (n:=1000000) hd fun x hx=>F3h hs x (List.drop_subset _ _ hx);have hdc:=hdl.2 ds hd
  obtain⟨m,hm⟩:∃m,m=j+1+(A4u ((lnL ls).drop (j+1))).2:=⟨_,rfl⟩
  rw[<-hm]
  have hml:m<ls.length:=by omega
  have sm:∀g,Wd g->SmI ⟨bs id,ws.map bs,(k:Int),ds,g⟩:=fun g hg=>by
   have hll:=hs.len;refine⟨⟨by rw[List.length_map];omega,fun w hw=>?_⟩,by show ds.length<=_;omega,fun d hd=>?_,hg,?_⟩
   ·obtain⟨y,hy,rfl⟩:=List.mem_map.1 hw;rw[A0l];have:=hw2 y hy;unfold lim;omega
   ·have:=hdn d hd;unfold lim;omega
   ·show(bs id).size<=_;rw[A0l];unfold lim;omega
  unfold E9b;by_cases hk:k=1
  rotate_left
  ·rw[if_neg hk,if_neg (by omega)];exact⟨m,by omega,hml,rfl,rfl,sm _ wdZ⟩
  ·rw[if_pos hk,if_pos (by omega)];have hg:=F3i a hml
   cases hgd:A7h ((lnL ls).drop m)with
   | error e=>
    rw[hgd]at hg;obtain⟨h1,n,h3⟩:=hg;rw[h3];exact⟨h1,n,_,_,_,_,A1y,rfl⟩
   | ok o=>
    obtain⟨g,r⟩:=o;rw[hgd]at hg;obtain⟨n,h1,h2,h3,h4,h5⟩:=hg;rw[h4];exact⟨n,by omega,h2,h3,rfl,sm g h5⟩
theorem D2j:∀l:List (List UInt8),l.length<=(unl l).length/\∀x∈l,x.length<=(unl l).length
 | []=>⟨Nat.zero_le _,fun x hx=>by cases hx⟩
 | a::r=>by
  obtain⟨h1,h2⟩:=D2j r
  have e:unl (a::r)=a++10::unl r:=by simp[unl]
  rw[e];simp only[List.length_append,List.length_cons];refine⟨by omega,fun x hx=>?_⟩;rcases List.mem_cons.1 hx with rfl | hx
  ·omega
  ·have:=h2 x hx;omega
theorem E4z {s:ByteArray} (h:s.size<=65536):SmL (A7a s):=by
 have e:=B9m (lbs s) [];have hl:=congrArg List.length e;rw[List.length_append,List.nil_append,B1e]at hl;obtain⟨h1,h2⟩:=D2j (cutL [] (lbs s)).1;unfold A7a;refine⟨by simp,by simp;omega,fun w hw=>?_⟩;obtain⟨y,hy,rfl⟩:=List.mem_map.1 hw;rw[A0l];rcases List.mem_append.1 hy with hy | hy
 ·have:=h2 y hy;omega
 ·simp only[List.mem_singleton]at hy;subst hy;omega
theorem E5a (s:ByteArray):lnL (A7a s)=(cutL [] (lbs s)).1:=by
 unfold lnL A7a;rw[List.map_map,show(lbs∘bs)=id from funext fun l=>A3j l,List.map_id,List.dropLast_concat]
theorem D8u (s:ByteArray):(A7a s).getD ((A7a s).length-1) ⟨#[]⟩=bs (cutL [] (lbs s)).2:=by
 unfold A7a;rw[List.map_append,List.length_append];simp
def decF (ver:ByteArray) (out:List It):Except Int (List It)->T
 | .error e=>.tu [.ag [sv ⟨#[]⟩,nilS],iv e]
 | .ok xs=>if chkT ⟨ver,out++xs⟩=0 then .tu [.ag [sv ver,A2e eIC ((out++xs).map icW)],iv 0]else .tu [.ag [sv ⟨#[]⟩,nilS],iv (chkT ⟨ver,out++xs⟩)]
def decO (s:List UInt8):T:=match decT s with
 | .error e=>.tu [.ag [sv ⟨#[]⟩,nilS],iv e]
 | .ok b=>.tu [.ag [sv b.ver,A2e eIC (b.items.map icW)],iv 0]
theorem F3k (s:ByteArray):decO (lbs s)=if 65536<s.size then .tu [.ag [sv ⟨#[]⟩,nilS],iv 7]else
  if 1<(A7a s).length then match parts A1h (lbs ((A7a s).getD 0 ⟨#[]⟩))with
   | some [n]=>decF (bs n) [] (A2m ((A7a s).length-1) ((lnL (A7a s)).drop 1) (cutL [] (lbs s)).2)
   | _=>.tu [.ag [sv ⟨#[]⟩,nilS],iv 8]
  else .tu [.ag [sv ⟨#[]⟩,nilS],iv 9]:=by
 unfold decO decT;rw[B1e];by_cases h:65536<s.size
 ·rw[if_pos h,if_pos h]
 rw[if_neg h,if_neg h,E5a];unfold A7a
 obtain⟨L,hL⟩:∃L,L=cutL [] (lbs s):=⟨_,rfl⟩
 rw[<-hL];obtain⟨l,tl⟩:=L
 cases l with
 | nil=>rfl
 | cons v ls=>
  have e1:(((v::ls,tl).1++[(v::ls,tl).2]).map bs).length=ls.length+2:=by simp
  rw[e1,if_pos (by omega)];have e2:(((v::ls,tl).1++[(v::ls,tl).2]).map bs).getD 0 ⟨#[]⟩=bs v:=rfl;rw[e2,A3j];simp only[List.drop_succ_cons,List.drop_zero];rw[show ls.length+2-1=ls.length+1 by omega]
  cases hp:parts A1h v with
  | none=>rfl
  | some w=>
   match w with
   | []=>rfl
   | [n]=>
    simp only
    cases A2m (ls.length+1) ls tl with
    | error e=>rfl
    | ok xs=>
     simp only
     show _=if chkT ⟨bs n,xs⟩=0 then T.tu [T.ag [sv (bs n),A2e eIC (xs.map icW)],iv 0]else .tu [.ag [sv ⟨#[]⟩,nilS],iv (chkT ⟨bs n,xs⟩)]
     by_cases hc:chkT ⟨bs n,xs⟩=0
     ·rw[if_neg (by simpa using hc),if_pos hc]
     ·rw[if_pos hc,if_neg hc]
   | _::_::_=>rfl
abbrev zB:Row:=bRow ⟨#[]⟩ nilS
def HDc (ver:ByteArray) (a:T) (j:Nat) (out:List It):Heap:=[(2,oRow ver (rowP eIC 3 (out.map icW))),(1,rdR a j),(0,zB)]++rowH eIC 28 3 (out.map icW)
def SDcd (ver:ByteArray) (a:T) (x:Nat×List It):A0b:=⟨[(7,.ptr 2 0),(4,.ptr 1 0),(2,.ptr 0 0)],HDc ver a x.1 x.2,4,60⟩
theorem F0e (ver:ByteArray) (a:T) (j:Nat) (out:List It):A1e eIC 28 (HDc ver a j out) 3 (out.map icW):=
 (A1e.head' eIC 28 3 (out.map icW)).imp id fun h=>by
  show Abs.look ((2,oRow ver (rowP eIC 3 (out.map icW)))::(1,rdR a j)::(0,zB)::rowH eIC 28 3 (out.map icW)) 3=_;rw[look_cons,if_neg (by omega),look_cons,if_neg (by omega),look_cons,if_neg (by omega)];exact h
theorem D8v (x:It):∃k nm f t tk ks,encW x=[sv x.id,slT eStr x.words,iv x.state,A2e eDc x.decs,iv k,sv nm,iv f,iv t,tk]/\x.gold = .mk k nm f t ks:=by
 unfold encW
 cases hg:x.gold with
 | mk k nm f t ks=>
  obtain⟨tk,e,_⟩:=(IsD.enc (.mk k nm f t ks)).parts;exact⟨k,nm,f,t,tk,ks,by rw[e];rfl,rfl⟩
theorem A7b (s:ByteArray) (hsz:s.size<=1000000000):A0z Tryz.prog (G q) 49 [sv s] (· = decO (lbs s)):=by
 have C:Ctx Tryz.prog (G q) _:=(A0x.cons (E9l (q:=q)) (.cons (hChk (q:=q)) .nil)).ctxH (A1s.cons (hPt (q:=q)) (.cons (hMr (q:=q)) (.cons (hIt47 (q:=q)) .nil))) mixed
 obtain⟨P,hP⟩:∃P,P=decO (lbs s):=⟨_,rfl⟩
 rw[<-hP];rw[F3k]at hP;have bz:∀(Φ:A0o) (H:Heap) (nx:Nat),A0d Φ H nx (.build [(0,1),(1,1)] [.string ⟨#[]⟩,.slice none 0 0] []) []=some (.t (.ag [sv ⟨#[]⟩,nilS]),H,nx):=fun _ _ _=>rfl;have sz0:∀(H:Heap),Abs.look H 0=some zB->A0r 2 H (.ptr 0 0) (.t (.ag [sv ⟨#[]⟩,nilS]))=some (upd H 0 zB):=fun H h=>sBu h (.inl ⟨rfl,rfl⟩:IsS eIC nilS []);have lz0:∀(H:Heap),Abs.look H 0=some zB->A0f true 2 (upd H 0 zB) (.ptr 0 0)=some (.t (.ag [sv ⟨#[]⟩,nilS])):=fun H h=>(ldB (ver:=⟨#[]⟩) (u:=nilS) (H:=upd H 0 zB) (b:=0) (A3z h)).a;have hzb:Row.cells 39 [.t (.v (.string ⟨#[]⟩)),.t (.v (.slice none 0 0))]=zB:=rfl;refine B6j.call rfl ?_;(conv in A8o=>cbv);refine A0a C ?_;simp -implicitDefEqProofs;rw[hzb];have za:=sz0 [(0,zB)] rfl;have zb:A0f true 2 [(0,zB)] (.ptr 0 0)=_:=lz0 [(0,zB)] rfl;by_cases h0:65536<s.size
 ·rw[if_pos h0]at hP
  have hb:(65536:Int)<(s.size:Int):=by omega
  refine A0a C ?_;simp -implicitDefEqProofs [hb,bz,za,zb,hP,-evalK_build]
 rw[if_neg h0]at hP
 have hb:¬(65536:Int)<(s.size:Int):=by omega
 have hs:=E4z (s:=s) (by omega);have eS:=E4r s (by omega);have ht:=IsS.mk (e:=eStr) (A7a s);have hlast:=D8u s
 obtain⟨tl,htl⟩:∃tl,tl=(cutL [] (lbs s)).2:=⟨_,rfl⟩
 rw[<-htl]at hlast hP;generalize A7a s=ls at *
 obtain⟨a,ha⟩:∃a,a=slT eStr ls:=⟨_,rfl⟩
 rw[<-ha]at eS ht;have hpos:=hs.pos;have hlen:=hs.len
 have bR:∀(Φ:A0o) (H:Heap) (nx:Nat),A0d Φ H nx (.build [(0,1),(1,1)] [.slice none 0 0,.int .i64 0] [0]) [.t a]=some (.t (.ag [a,iv 0]),H,nx):=fun _ _ _=>by rw[ha];rfl
 have cR:A0y (.t (.ag [a,iv 0]))=some [.t a,.t (iv 0)]:=rfl;refine A0a C ?_;simp -implicitDefEqProofs [hb];refine A0a C ?_;simp -implicitDefEqProofs [eS,bR,cR,-evalK_build];have hR0:Row.cells 118 [.t a,.t (iv 0)]=rdR a 0:=rfl;rw[hR0];have o1:=A9r (f:=fPt) ht hs (i:=0) (by omega) (ts:=[sv ⟨#[118,101,114,115,105,111,110]⟩]) (o:=B2s ⟨#[118,101,114,115,105,111,110]⟩ a ls 0) rfl (H:=[(1,rdR a 0),(0,zB)]) (b:=1) (nx:=2) rfl (by omega);have hw:lbs ⟨#[118,101,114,115,105,111,110]⟩=A1h:=rfl;unfold B2s at o1;rw[hw]at o1;by_cases h1:1<ls.length
 rotate_left
 ·rw[if_neg h1]at hP;rw[if_neg (by omega)]at o1;have o1:hObj 118 (gRdr fPt) [.ptr 1 0,.t (.v (.string ⟨#[118,101,114,115,105,111,110]⟩))] [(1,rdR a 0),(0,zB)] 2=some (.t (.tu [nilS,iv 9]),[(1,rdR a 0),(0,zB)],2):=o1;have za:=sz0 [(1,rdR a 0),(0,zB)] rfl;have zb:A0f true 2 [(1,rdR a 0),(0,zB)] (.ptr 0 0)=_:=lz0 [(1,rdR a 0),(0,zB)] rfl;refine A0a C ?_;simp -implicitDefEqProofs [o1];refine A0a C ?_;simp -implicitDefEqProofs [bz,za,zb,hP,-evalK_build]
 rw[if_pos h1]at hP;rw[if_pos (by omega)]at o1;have za:=sz0 [(1,rdR a 1),(0,zB)] rfl;have zb:A0f true 2 [(1,rdR a 1),(0,zB)] (.ptr 0 0)=_:=lz0 [(1,rdR a 1),(0,zB)] rfl
 cases hp:parts A1h (lbs (ls.getD 0 ⟨#[]⟩))with
 | none=>
  rw[hp]at hP o1;have hP:P = .tu [.ag [sv ⟨#[]⟩,nilS],iv 8]:=hP;have o1:hObj 118 (gRdr fPt) [.ptr 1 0,.t (.v (.string ⟨#[118,101,114,115,105,111,110]⟩))] [(1,rdR a 0),(0,zB)] 2=some (.t (.tu [nilS,iv 8]),[(1,rdR a 1),(0,zB)],2):=o1;refine A0a C ?_;simp -implicitDefEqProofs [o1];refine A0a C ?_;simp -implicitDefEqProofs [bz,za,zb,hP,-evalK_build]
 | some ws=>
 rw[hp]at hP o1;have hT:=IsS.mk (e:=eStr) (ws.map bs);have ln:=hT.len;rw[List.length_map]at ln;have o1:hObj 118 (gRdr fPt) [.ptr 1 0,.t (.v (.string ⟨#[118,101,114,115,105,111,110]⟩))] [(1,rdR a 0),(0,zB)] 2=some (.t (.tu [slT eStr (ws.map bs),iv 0]),[(1,rdR a 1),(0,zB)],2):=o1;by_cases h2:ws.length=1
 rotate_left
 ·have hP:P = .tu [.ag [sv ⟨#[]⟩,nilS],iv 8]:=by
   rw[hP]
   match ws,h2 with
   | [],_=>rfl
   | [_],h=>exact absurd rfl h
   | _::_::_,_=>rfl
  have hb:((ws.length:Int) != 1)=true:=by simpa using (by omega:¬(ws.length:Int)=1)
  generalize slT eStr (ws.map bs)=TW at *;refine A0a C ?_;simp -implicitDefEqProofs [o1];refine A0a C ?_;simp -implicitDefEqProofs;refine A0a C ?_;simp -implicitDefEqProofs [ln,hb,bz,za,zb,hP,-evalK_build]
 obtain⟨v,rfl⟩:∃v,ws=[v]:=by
  match ws,h2 with
  | [v],_=>exact⟨v,rfl⟩
 have j0:A1c 1 (.t (slT eStr ([v].map bs))) (.t (iv ((0:Nat):Int)))=_:=hT.iaddr (i:=0) rfl .i64;have j0:A1c 1 (.t (slT eStr ([v].map bs))) (.t (.v (.int .i64 0)))=_:=j0;have ld:∀(x:ByteArray) (r:List T) (H:Heap),A0f false 1 H (.t (.pt (eStr.enc x++r)))=some (.t (sv x)):=fun _ _ _=>rfl;have ln:A6o (.t (slT eStr ([v].map bs)))=some (.t (.v (.int .i64 1))):=ln
 have hvs:(bs v).size<=1000000:=by
  rw[A0l];have:=(B6q hp).2 v (by simp);have:=C1a hs (j:=0) (by omega);omega
 generalize slT eStr ([v].map bs)=TW at *
 obtain⟨ver,hver⟩:∃ver,ver=bs v:=⟨_,rfl⟩
 have hP:P=decF ver [] (A2m (ls.length-1) ((lnL ls).drop 1) tl):=by rw[hver];exact hP
 rw[<-hver]at hvs;rw[<-hver]at j0;have j0:A1c 1 (.t TW) (.t (.v (.int .i64 0)))=some (.t (.pt (eStr.enc ver++rest eStr ([v].map bs) 0))):=j0;have bV:=fun Φ H nx=>bd2 Φ H nx ver;refine A0a C ?_;simp -implicitDefEqProofs [o1];refine A0a C ?_;simp -implicitDefEqProofs;refine A0a C ?_;simp -implicitDefEqProofs [ln];have sv2:A0r 2 [(2,.cells 39 [.t (.v (.string ⟨#[]⟩)),.t (.v (.slice none 0 0))]),(1,rdR a 1),(0,zB)] (.ptr 2 0) (.t (.ag [sv ver,nilS]))=some (HDc ver a 1 []):=rfl;refine A0a C ?_;simp -implicitDefEqProofs [j0,ld,bV,sv2,-evalK_build];refine A1f (α:=Nat×List It) (SDcd ver a) (fun x=>x.2.length<=ls.length/\(∀y∈x.2,SmI y)/\P=decF ver x.2 (.ok [])) (fun _=>rfl) ?_ ?_
 ·refine A0n ?_;refine A1a (SDcd ver a) (fun x=>ls.length-x.1) (fun x=>x.1<ls.length/\x.2.length<=x.1/\(∀y∈x.2,SmI y)/\∃n,ls.length<=n+x.1/\decF ver x.2 (A2m n ((lnL ls).drop x.1) tl)=P) (1,[]) (fun _=>rfl) ⟨h1,by show 0<=1;omega,(fun y hy=>by cases hy),ls.length-1,by show ls.length<=ls.length-1+1;omega,hP.symm⟩ ?_ rfl ?_
  ·refine B4p (e:=eIC) (ty:=28) (b:=3) (k:=3) (l:=[]) (R:=[(2,oRow ver (rowP eIC 3 ([].map icW))),(1,rdR a 1),(0,zB)]) (A1e.nil _ _ _ _) (by omega) (by omega) (fun z hz=>?_) (by simp -implicitDefEqProofs [SDcd,ren,under]);simp only[List.mem_cons,List.not_mem_nil,or_false]at hz;rcases hz with rfl | rfl | rfl
   ·exact⟨rfl,by show 2<4;omega,by show 2≠3;omega,by show 2≠3;omega,rfl⟩
   ·exact⟨rfl,by show 1<4;omega,by show 1≠3;omega,by show 1≠3;omega,rfl⟩
   ·exact⟨rfl,by show 0<4;omega,by show 0≠3;omega,by show 0≠3;omega,rfl⟩
  rintro⟨j,out⟩ ⟨hj,hol,hsm,n,hn,heq⟩;simp only at hj hol hsm hn heq;have o1:=A9r (f:=fMr) ht hs hj (ts:=[]) (o:=(bv (C1t ls j),[a,iv (j:Int)])) rfl (H:=HDc ver a j out) (b:=1) (nx:=4) rfl (by omega);have o1:hObj 118 (gRdr fMr) [.ptr 1 0] (HDc ver a j out) 4=some (.t (bv (C1t ls j)),HDc ver a j out,4):=o1;unfold SDcd
  have hx:(bs tl=(⟨#[]⟩:ByteArray)) ↔ tl=[]:=⟨fun e=>by have:=congrArg lbs e;rwa[A3j]at this,fun e=>by rw[e]⟩
  have hend:¬j+1<ls.length->C1t ls j = !decide (tl=[]):=fun h=>by
   unfold C1t;rw[decide_eq_false h,Bool.false_or,show j=ls.length-1 by omega,hlast];simp only[hx]
  obtain⟨m,rfl⟩:∃m,n=m+1:=by
   cases n with
   | zero=>omega
   | succ m=>exact⟨m,rfl⟩
  cases hm:C1t ls j with
  | false=>
   rw[hm]at o1
   have h3:¬j+1<ls.length:=fun h=>by
    unfold C1t at hm;rw[decide_eq_true h,Bool.true_or]at hm;cases hm
   have h4:=hend h3;rw[hm]at h4
   have h5:tl=[]:=by simpa using h4.symm
   rw[B1z h3,A2m,if_pos h5]at heq;refine A0c C ?_;simp -implicitDefEqProofs [o1];exact Abs.Next.mk (j,out) ⟨by show out.length<=_;omega,hsm,heq.symm⟩ (A0e (by simp -implicitDefEqProofs))
  | true=>
  rw[hm]at o1;refine A0a C ?_;simp -implicitDefEqProofs [o1];refine A0n ?_;have ik:=F3j a hs hj;have o2:=A9r (f:=E4w) ht hs hj (ts:=[]) (o:=C6c a ls j) rfl (H:=HDc ver a j out) (b:=1) (nx:=4) rfl (by omega);have k0:∀(R:Row) (k:Nat),Abs.look ((4,R)::HDc ver a k out) 0=some zB:=fun _ _=>rfl
  cases hr:B0m ((lnL ls).drop j)with
  | error e=>
   rw[hr]at ik;obtain⟨he,k,id,tw,st,td,g,hi⟩:=ik
   have hPe:P = .tu [.ag [sv ⟨#[]⟩,nilS],iv e]:=by
    rw[<-heq];by_cases h3:j+1<ls.length
    ·rw[B3v h3,A2m,<-B3v h3,hr];rfl
    ·have h4:=hend h3;rw[hm]at h4
     have h5:¬tl=[]:=by simpa using h4.symm
     rw[B1z h3,B0m]at hr;cases hr;rw[B1z h3,A2m,if_neg h5];rfl
   obtain⟨kk,nm,f,t,tk,eg⟩:=B1y g;rw[hi,eg]at o2;have o2:hObj 118 (gRdr E4w) [.ptr 1 0] (HDc ver a j out) 4=some (.t (.tu [.ag [sv id,tw,iv st,td,iv kk,sv nm,iv f,iv t,tk],iv e]),HDc ver a k out,4):=o2;have s4:=sI9 id tw st td kk nm f t tk (HDc ver a k out) 4 [.t (.v (.string ⟨#[]⟩)),.t (.v (.slice none 0 0)),.t (.v (.int .i64 0)),.t (.v (.slice none 0 0)),.t (.v (.int .i64 0)),.t (.v (.string ⟨#[]⟩)),.t (.v (.int .i64 0)),.t (.v (.int .i64 0)),.t (.v (.slice none 0 0))] rfl;have za:=sz0 _ (k0 (iRow id tw st td kk nm f t tk) k);have zb:=lz0 _ (k0 (iRow id tw st td kk nm f t tk) k)
   obtain⟨H1,hH1⟩:∃H1,H1=(4,iRow id tw st td kk nm f t tk)::HDc ver a k out:=⟨_,rfl⟩
   rw[<-hH1]at za zb s4
   obtain⟨H2,hH2⟩:∃H2,H2=upd H1 0 zB:=⟨_,rfl⟩
   rw[<-hH2]at za zb
   have hb:(e != 0)=true:=by simpa using he
   refine A0a C ?_;simp -implicitDefEqProofs [o2,s4];refine A0a C ?_;simp -implicitDefEqProofs [hb,bz,za,zb,hPe,A8c,-evalK_build]
  | ok o=>
   obtain⟨x,r⟩:=o;rw[hr]at ik;obtain⟨k,hk1,hk2,rfl,hi,hxs⟩:=ik
   have heq2:decF ver (out++[x]) (A2m m ((lnL ls).drop k) tl)=P:=by
    rw[<-heq]
    have h3:j+1<ls.length:=by omega
    rw[B3v h3,A2m,<-B3v h3,hr];simp only
    cases A2m m ((lnL ls).drop k) tl with
    | error e=>rfl
    | ok xs=>unfold decF;simp only[List.append_assoc,List.cons_append,List.nil_append]
   obtain⟨kk,nm,f,t,tk,ks,eg,_⟩:=D8v x;rw[hi,eg]at o2;have o2:hObj 118 (gRdr E4w) [.ptr 1 0] (HDc ver a j out) 4=some (.t (.tu [.ag [sv x.id,slT eStr x.words,iv x.state,A2e eDc x.decs,iv kk,sv nm,iv f,iv t,tk],iv 0]),HDc ver a k out,4):=o2;have exx:eIC.enc (icW x)=[sv x.id,slT eStr x.words,iv x.state,A2e eDc x.decs,iv kk,sv nm,iv f,iv t,tk]:=eg
   obtain⟨tw,htw⟩:∃tw,tw=slT eStr x.words:=⟨_,rfl⟩
   obtain⟨td,htd⟩:∃td,td=A2e eDc x.decs:=⟨_,rfl⟩
   rw[<-htw,<-htd]at o2 exx;have s4:=sI9 x.id tw x.state td kk nm f t tk (HDc ver a k out) 4 [.t (.v (.string ⟨#[]⟩)),.t (.v (.slice none 0 0)),.t (.v (.int .i64 0)),.t (.v (.slice none 0 0)),.t (.v (.int .i64 0)),.t (.v (.string ⟨#[]⟩)),.t (.v (.int .i64 0)),.t (.v (.int .i64 0)),.t (.v (.slice none 0 0))] rfl;have w4:=ldI x.id tw x.state td kk nm f t tk (H:=(4,iRow x.id tw x.state td kk nm f t tk)::HDc ver a k out) (b:=4) rfl;have l2:A0f false 1 ((4,iRow x.id tw x.state td kk nm f t tk)::HDc ver a k out) (.ptr 2 1)=some (rowP eIC 3 (out.map icW)):=ldO (v:=ver) rfl;have bsl:=bsI x.id tw x.state td kk nm f t tk 5
   obtain⟨xr,hxr⟩:∃xr,xr=iRow x.id tw x.state td kk nm f t tk:=⟨_,rfl⟩
   rw[<-hxr]at s4 w4 l2 bsl
   have hxr':xr = .cells 28 ((eIC.enc (icW x)).map .t):=by rw[hxr,exx];rfl
   have ra:A1e eIC 28 ((5,xr)::(4,xr)::HDc ver a k out) 3 (out.map icW):=((F0e ver a k out).cons (by omega)).cons (by omega);obtain⟨b5,H5,n5,ap,r5,ne5,le5,lk5,ge5⟩:=B8a (e:=eIC) (ty:=28) (by':=136) (nx:=6) (m:=[icW x]) ra (C4n (e:=eIC) (ty:=28) (b:=5) (icW x) (by rw[hxr'];rfl)) (by simp;omega) (by simp;omega);have ap:appM 28 9 136 ((5,xr)::(4,xr)::HDc ver a k out) 6 (rowP eIC 3 (out.map icW)) (.row 5 0 1 9)=some (rowP eIC b5 (out.map icW++[icW x]),H5,n5):=ap
   have hmap:out.map icW++[icW x]=(out++[x]).map icW:=by simp
   obtain⟨LX,hLX⟩:∃LX,LX=(out++[x]).map icW:=⟨_,rfl⟩
   rw[hmap,<-hLX]at ap r5
   have q2:Abs.look H5 2=some (oRow ver (rowP eIC 3 (out.map icW))):=by rw[lk5 2 (by omega) (by omega)];rfl
   have q1:Abs.look H5 1=some (rdR a k):=by rw[lk5 1 (by omega) (by omega)];rfl
   have q0:Abs.look H5 0=some zB:=by rw[lk5 0 (by omega) (by omega)];rfl
   have hcell:A0y (rowP eIC b5 LX)=some [rowP eIC b5 LX]:=by
    cases LX<;>rfl
   have so:=sO q2 hcell
   obtain⟨H6,hH6⟩:∃H6,H6=upd H5 2 (oRow ver (rowP eIC b5 LX)):=⟨_,rfl⟩
   rw[<-hH6]at so
   have g6:∀b,b≠2->Abs.look H6 b=Abs.look H5 b:=fun b h=>by rw[hH6,A1d,if_neg h]
   have q2':Abs.look H6 2=some (oRow ver (rowP eIC b5 LX)):=by rw[hH6];exact A3z q2
   have r6:A1e eIC 28 H6 b5 LX:=r5.imp id fun h=>by rw[g6 b5 (by omega)];exact h
   refine A0a C ?_;simp -implicitDefEqProofs [o2,s4];refine A0a C ?_;simp -implicitDefEqProofs;refine A0c C ?_;simp -implicitDefEqProofs [l2,w4.a,bsl,ap,so];refine Abs.Next.mk (k,out++[x]) ⟨⟨hk2,by show(out++[x]).length<=k;simp;omega,fun y hy=>?_,m,by show ls.length<=m+k;omega,heq2⟩,by show ls.length-k<ls.length-j;omega⟩ ?_
   ·rcases List.mem_append.1 hy with hy | hy
    ·exact hsm y hy
    ·simp only[List.mem_singleton]at hy;rw[hy];exact hxs
   rw[hLX]at q2' r6;refine B4p (e:=eIC) (ty:=28) (b:=3) (k:=b5) (l:=(out++[x]).map icW) (R:=[(2,oRow ver (rowP eIC 3 ((out++[x]).map icW))),(1,rdR a k),(0,zB)]) r6 (by omega) (by omega) (fun z hz=>?_) (by simp -implicitDefEqProofs [ren,under]);simp only[List.mem_cons,List.not_mem_nil,or_false]at hz;rcases hz with rfl | rfl | rfl
   ·refine⟨?_,by show 2<4;omega,by show 2≠3;omega,by show 2≠b5;omega,?_⟩
    ·rw[q2'];show _=some (Row.cells _ [.t (sv ver),ren _ (rowP eIC 3 _)]);rw[A7f];rfl
    ·show A1g 4 [.t (sv ver),rowP eIC 3 ((out++[x]).map icW)]=true;simp -implicitDefEqProofs [A4p,under,A1g]
   ·exact⟨by rw[g6 1 (by omega),q1];rfl,by show 1<4;omega,by show 1≠3;omega,by show 1≠b5;omega,rfl⟩
   ·exact⟨by rw[g6 0 (by omega),q0];rfl,by show 0<4;omega,by show 0≠3;omega,by show 0≠b5;omega,rfl⟩
 ·rintro⟨j,out⟩ ⟨hol,hsm,hP⟩;simp only at hol hsm hP
  obtain⟨U,hU⟩:∃U,U=A2e eIC (out.map icW):=⟨_,rfl⟩
  refine MC.sub (s':=⟨[(7,.ptr 2 0),(2,.ptr 0 0)],[(2,bRow ver U),(1,rdR a j),(0,zB)],3,60⟩) ?_ rfl ?_
  ·have f3:=C0m (F:=[3]) (F0e ver a j out) (by simp);refine B8g [3] (by omega) (fun z hz=>?_) fun z hz=>?_
   ·simp only[List.mem_cons,List.not_mem_nil,or_false]at hz;rcases hz with rfl | rfl | rfl
    ·refine⟨by simp,⟨oRow ver (rowP eIC 3 (out.map icW)),rfl,?_⟩,by show 2<3;omega,by exact A2b _ [sv ver,U]⟩;show Row.cells _ [.t (sv ver),frzP _ _ (rowP eIC 3 _)]=_;rw[f3,<-hU];rfl
    ·exact⟨by simp,⟨_,rfl,rfl⟩,by show 1<3;omega,rfl⟩
    ·exact⟨by simp,⟨_,rfl,rfl⟩,by show 0<3;omega,rfl⟩
   ·simp only[List.mem_cons,List.not_mem_nil,or_false]at hz;rcases hz with rfl | rfl
    ·exact⟨⟨_,rfl,rfl⟩,rfl⟩
    ·exact⟨⟨_,rfl,rfl⟩,rfl⟩
  have hu:IsS eIC U (out.map icW):=by rw[hU];exact IsS.tree _ _
  have eC:=D1z (ver:=ver) hu ⟨by unfold lim;omega,by rw[List.length_map];omega,fun c hc=>by obtain⟨y,hy,rfl⟩:=List.mem_map.1 hc;exact hsm y hy⟩
  have hmm:(out.map icW).map IC.x=out:=by rw[List.map_map];exact List.map_id out
  rw[hmm]at eC;have l2:=(ldB (ver:=ver) (u:=U) (H:=[(2,bRow ver U),(1,rdR a j),(0,zB)]) (b:=2) rfl).a
  have hP:P=if chkT ⟨ver,out⟩=0 then .tu [.ag [sv ver,U],iv 0]else .tu [.ag [sv ⟨#[]⟩,nilS],iv (chkT ⟨ver,out⟩)]:=by
   rw[hP,hU];show(if chkT ⟨ver,out++[]⟩=0 then T.tu [.ag [sv ver,A2e eIC ((out++[]).map icW)],iv 0]else .tu [.ag [sv ⟨#[]⟩,nilS],iv (chkT ⟨ver,out++[]⟩)])=_;rw[List.append_nil]
  by_cases hc:chkT ⟨ver,out⟩=0
  ·rw[if_pos hc]at hP;rw[hc]at eC;have za:A0r 2 [(2,bRow ver U),(1,rdR a j),(0,zB)] (.ptr 0 0) (.t (.ag [sv ver,U]))=some [(2,bRow ver U),(1,rdR a j),(0,bRow ver U)]:=sBu (H:=[(2,bRow ver U),(1,rdR a j),(0,zB)]) (b:=0) (v':=⟨#[]⟩) (u':=nilS) rfl hu;have zb:=(ldB (ver:=ver) (u:=U) (H:=[(2,bRow ver U),(1,rdR a j),(0,bRow ver U)]) (b:=0) rfl).a;refine A0c C ?_;simp -implicitDefEqProofs [l2,eC,za,zb,hP]
  ·rw[if_neg hc]at hP
   have hb:(chkT ⟨ver,out⟩ != 0)=true:=by simpa using hc
   have za:A0r 2 [(2,bRow ver U),(1,rdR a j),(0,zB)] (.ptr 0 0) (.t (.ag [sv ⟨#[]⟩,nilS]))=some [(2,bRow ver U),(1,rdR a j),(0,zB)]:=sz0 _ rfl;have zb:A0f true 2 [(2,bRow ver U),(1,rdR a j),(0,zB)] (.ptr 0 0)=some (.t (.ag [sv ⟨#[]⟩,nilS])):=lz0 [(2,bRow ver U),(1,rdR a j),(0,zB)] rfl;refine A0c C ?_;simp -implicitDefEqProofs [l2,eC,hb,bz,za,zb,hP,-evalK_build]
noncomputable def gDec:List T->Option T:=gStr (fun s=>decO s.data.toList) 1000000000
theorem hDec:GOK Tryz.prog (G q) 49 gDec:=A9p fun s hs=>A7b s hs
theorem E5b {s:ByteArray} (h:s.size<=1000000000):gDec [sv s]=some (decO (lbs s)):=B3p h
end Go.Proofs.YtmplckgbeaifkaaGreatDoor
