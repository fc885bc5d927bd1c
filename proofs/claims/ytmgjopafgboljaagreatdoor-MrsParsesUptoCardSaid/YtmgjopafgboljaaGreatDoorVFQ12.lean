/- Auxiliary facts. -/
import Derived.Test.YtmgjopafgboljaaGreatDoorVFQ11
import Derived.Test.YtmgjopafgboljaaGreatDoorVFQ01
set_option linter.unusedSimpArgs false
set_option maxRecDepth 100000
set_option maxHeartbeats 0
set_option linter.unusedVariables false
open Go.Proofs.Tryz renaming prog->Xc
open Array renaming getElem?_push->Xd,getElem?_modify->Xl,getElem?_eq_some_iff->Xm,getElem?_setIfInBounds->Xn
open Go.Result renaming andThen->Xe
open List renaming length_append->Xf,size_toArray->Xg,append_assoc->Xh,take_left->Xi,eq_nil_of_length_eq_zero->Xj
open Option renaming map_eq_some_iff->Xk
namespace Go.Proofs.YtmgjopafgboljaaGreatDoor
open Go Go.Shelf Go.RowKit
variable {P : Program} {ρ : Ren}
theorem jS (w:World) (o:Obj):Abs.BH w (w.drew.alloc o):=λk hk arr ty fz he=>by
 have e:(w.drew.alloc o).heap[k]?=w.heap[k]?:=by
  show(w.heap.push o)[k]?=_;rw[Xd,zw (Nat.ne_of_lt hk)]
 rw[e]at he;exact⟨arr,fz,he,rfl⟩
def Buf (e:TypeId) (w:World) (v:Value) (n:Nat) (xs:List Value):Prop:=
 xs.length=n/\((v = .slice none 0 0/\n=0)\/∃g cap cur,v = .slice (some ⟨g,0,none⟩) n cap/\w.heap[g]?=some (.cells cur e (0,0))/\n<=cap/\cap<=cur.size/\cur.toList.take n=xs)
theorem Buf.keep {e:TypeId} {w w':World} {v:Value} {n:Nat} {xs:List Value} (h:Buf e w v n xs) (hk:∀k,v.ownBlock=some k->w'.heap[k]?=w.heap[k]?):Buf e w' v n xs:=by
 obtain⟨h1,h2⟩:=h;refine⟨h1,h2.imp id λh=>?_⟩;obtain⟨g,cap,cur,rfl,h3,h4⟩:=h;exact⟨g,cap,cur,rfl,(hk g rfl).trans h3,h4⟩
structure LA (w w':World) (b:Option Nat) (row row':Option Nat):Prop where
 os:w'.os=w.os
 tape:w'.tape=w.tape
 output:w'.output=w.output
 size:w.heap.size<=w'.heap.size
 block:∀k,k<w.heap.size->some k≠b->some k≠row->w'.heap[k]?=w.heap[k]?
 shape:Abs.BH w w'
 fresh:row'=row\/row'=some w.heap.size
theorem TR (w:World) (o:Obj) (row:Option Nat):LA w (w.drew.alloc o) none row (some w.heap.size):=
 ⟨rfl,rfl,rfl,by show _<=(w.heap.push o).size;simp,λk hk _ _=>by show(w.heap.push o)[k]?=_;rw[Xd,zw (Nat.ne_of_lt hk)],jS w o,.inr rfl⟩
theorem jU (w:World) (t u ty e:TypeId) (i:TypeInfo) (ht:P.underlying t=some (.slice e)) (hu:P.underlying u=some .string) (hi:P.info? e=some i) (hz:i.zero=some (.int .u8 0))
  (hsize:i.size=1) (hby:i.bytes=1) (v:Value) (n:Nat) (xs:List Value) (hown:Buf e w v n xs) (s:ByteArray) (hbytes:n+s.size<=140737488355328) :
  ∃v' w',(Builtin.append_ #[t,u] ty #[v,.string s]).run P w = .ok v' w'/\Buf e w' v' (n+s.size) (xs++Lib.strCells s)/\LA w w' none v.ownBlock v'.ownBlock:=by
 obtain⟨hxl,hown⟩:=hown
 have hlen:(xs++Lib.strCells s).length=n+s.size:=by rw[Xf,hxl,Lib.strCells_length]
 have hz1:(Value.int IntKind.u8 0).cells.size=1:=rfl
 have new:∀old:Nat,Buf e (w.drew.alloc (.cells (xs.toArray++(Lib.strCells s).toArray++Builtin.zeroCells (Value.int .u8 0).cells (grownCap w (n+s.size) old e-(n+s.size))) e)) (.slice (some ⟨w.heap.size,0,none⟩) (n+s.size) (grownCap w (n+s.size) old e)) (n+s.size) (xs++Lib.strCells s):=λold=>by
  have hge:=grownCap_ge w (n+s.size) old e;refine⟨hlen,.inr ⟨w.heap.size,_,(xs.toArray++(Lib.strCells s).toArray++Builtin.zeroCells (Value.int .u8 0).cells (grownCap w (n+s.size) old e-(n+s.size))),rfl,?_,hge,?_,?_⟩⟩
  .show(w.heap.push _)[w.heap.size]?=_;rw[Xd,zu rfl]
  .simp only[Array.size_append,Xg,size_zeroCells,hz1,hxl,Lib.strCells_length];omega
  .simp only[Array.toList_append,Xh];rw[<-Xh,<-hlen];exact Xi
 rcases hown with⟨rfl,rfl⟩ | ⟨g,cap,cur,rfl,hg,hnc,hcs,htake⟩
 .have hx:xs=[]:=Xj hxl;subst hx;by_cases hm:s.size=0
  .have hf:=Lib.run_firstCells_string (P:=P) w 1 s;rw[hm]at hf;have hn:Lib.strCells s=[]:=Xj (by rw[Lib.strCells_length];exact hm);refine⟨.slice none 0 0,w,?_,by rw[hm,hn];exact⟨rfl,.inl ⟨rfl,rfl⟩⟩,⟨rfl,rfl,rfl,Nat.le_refl _,λ_ _ _ _=>rfl,Abs.BH.refl w,.inl rfl⟩⟩;simp[Builtin.append_,run_underlying ht,run_underlying hu,sizeOf,typeInfo,hi,hsize,Builtin.lenOf,hm,hf]
  .have h:=run_append_nil_string (P:=P) w t u ty e i (.int .u8 0) ht hu hi hz s (by omega) (by omega) (by rw[hby];omega);have hgr:=new 0;simp only[Nat.zero_add,List.nil_append,Array.empty_append]at hgr ⊢
   have e1:(s.data.map λb=>Value.int .u8 b.toNat)=(Lib.strCells s).toArray:=by
    apply Array.ext';simp[Lib.strCells]
   rw[e1]at h;exact⟨_,_,h,hgr,TR w _ _⟩
 .by_cases hroom:n+s.size<=cap
  .have h:=Lib.run_append_room_string (P:=P) w t u ty e i ht hu hi hsize g n cap cur hg s hroom (by omega);have hnew:=setRow_heap w g cur (cur.toList.take n++Lib.strCells s++cur.toList.drop (n+s.size)).toArray e _ hg
   have hsz:(cur.toList.take n++Lib.strCells s++cur.toList.drop (n+s.size)).toArray.size=cur.size:=by
    simp only[Xg,Xf,List.length_take,List.length_drop,Array.length_toList,Lib.strCells_length];omega
   refine⟨_,_,h,⟨hlen,.inr ⟨g,cap,_,rfl,hnew,hroom,by rw[hsz];exact hcs,?_⟩⟩,⟨rfl,rfl,rfl,by simp,λk _ _ hk=>setRow_other w g k _ (λe=>hk (by simp[Value.ownBlock,e])),λk hk arr ty fz he=>?_,.inl rfl⟩⟩
   .rw[htake,<-hlen];exact Xi
   .by_cases hkg:k=g
    .subst hkg;rw[hnew]at he;injection he with he;injection he with he1 he2 he3;subst he1;subst he2;exact⟨cur,(0,0),hg,hsz.symm⟩
    .rw[setRow_other w g k _ hkg]at he;exact⟨arr,fz,he,rfl⟩
  .have holds:∀j u,xs[j]?=some u->w.cell? ((⟨g,0,none⟩:Addr).add j)=some u:=λj u hj=>by
    have hjn:j<n:=by have:=(List.getElem?_eq_some_iff.1 hj).1;omega
    rw[<-htake,List.getElem?_take,zu hjn]at hj
    have ea:(⟨g,0,none⟩:Addr).add j=⟨g,j,none⟩:=by simp only[Addr.add];split<;>simp_all
    rw[ea,Lib.cell_of_heap hg];simpa using hj
   have h:=Lib.run_append_grow_string (P:=P) w t u ty e i (.int .u8 0) ht hu hi hz ⟨g,0,none⟩ n cap xs (by rw[hsize];simpa using hxl) holds s (by omega) (by omega) (by rw[hby];exact growslice_fits (by omega) (by omega));exact⟨_,_,h,new cap,TR w _ _⟩
theorem jY {ops:Array Oper} {rest:List Oper} {o:Oper} {a:Act} {w:World} {Q:Exit->Act->World->Prop} (hgd:o.guard=none) (sl x:Operand) (t u:TypeId)
  (ho:o.op = .call { callee:=.builtin .append,args:=#[sl,x],argTypes:=#[t,u] })
  (e:TypeId) (i:TypeInfo) (ht:P.underlying t=some (.slice e)) (hu:P.underlying u=some .string) (hi:P.info? e=some i) (hz:i.zero=some (.int .u8 0))
  (hsize:i.size=1) (hby:i.bytes=1)
  (v:Value) (n:Nat) (xs:List Value) (hs:a.eval sl=v) (hown:Buf e w v n xs) (s:ByteArray) (hx:a.eval x = .string s)
  (hbytes:n+s.size<=140737488355328)
  (h:∀v' w',Buf e w' v' (n+s.size) (xs++Lib.strCells s)->LA w w' none v.ownBlock v'.ownBlock->wpList P ops Q rest (a.put o.dst v') w'):wpList P ops Q (o::rest) a w:=by
 refine wpList_plain hgd λK hK=>?_;obtain⟨v',w',hr,h2,h3⟩:=jU (P:=P) w t u o.type e i ht hu hi hz hsize hby v n xs hown s hbytes;unfold Oper.wp execOp;simp only[ho,resolve,invoke,builtin,Sem.run_bind,Sem.run_pure,Result.andThen_ok,List.map_toArray,List.map_cons,List.map_nil,hs,hx,hr];exact hK _ _ (h v' w' h2 h3)
theorem jZ (L:Lays.n240 P ρ) (X:Builder.X72 P ρ) (b c:Nat) (w:World) (h0:w.cell? ⟨b,0,none⟩=some (.pointer none)) (hc:0<c) (hsh:w.shape? b=some ((ρ.t 72),c)) (hlies:liesAt P P.depth (ρ.t 72) (c / P.cellsOf (ρ.t 72)) 0 (ρ.t 72) 1=true) (hfz:w.frozen? ⟨b,0,none⟩=false) :
  Calls P (ρ.f 240) #[.pointer (some ⟨b,0,none⟩)] w λe w'=>e = .returned (.tuple #[])/\w'=w.setCell ⟨b,0,none⟩ (.pointer (some ⟨b,0,none⟩)):=by
 obtain⟨j,hj,hjs⟩:=Xk.1 X.sizeBuilder;have mixed:=L.mixed;have t72:=L.t72;have a72:=L.a72;have z72:=L.z72;have v72:=L.v72;have u72:=run_underlying L.t72;have t70:=L.t70;have a70:=L.a70;have z70:=L.z70;have v70:=L.v70;have u70:=run_underlying L.t70;have t9:=L.t9;have a9:=L.a9;have z9:=L.z9;have v9:=L.v9;have u9:=run_underlying L.t9;have t4:=L.t4;have a4:=L.a4;have z4:=L.z4;have v4:=L.v4;have u4:=run_underlying L.t4;have t164:=L.t164;have a164:=L.a164;have z164:=L.z164;have v164:=L.v164;have u164:=run_underlying L.t164
 go_enter L.f240,Body.n240_ntmps ρ
 go_wp2
 rw[Lib.run_to_unsafe w ⟨b,0,none⟩ L.t70 L.t164 hj (by rw[hjs];decide) hsh hc];simp only[Xe];rw[Oper.upon_value]
 go_wp2
 rw[run_callFunc_extern L.f276 (by kernel_rfl) (by kernel_rfl) (by kernel_rfl) (e:=Extern.AbiNoEscape.same) (by kernel_rfl)];rw[Lib.run_noEscape];simp only[Xe];rw[Oper.upon_value]
 go_wp2
 rw[Lib.run_from_unsafe w ⟨b,0,none⟩ L.t164 L.t70 hj hsh hlies];simp only[Xe];rw[Oper.upon_value]
 go_wp2
 go_end0
 exact⟨rfl,rfl⟩
theorem TS {w:World} {b o:Nat} {arr:Array Value} {T:TypeId} (hb:w.heap[b]?=some (.cells arr T (0,0))) (x:Value):(w.setCell ⟨b,o,none⟩ x).heap[b]?=some (.cells (arr.setIfInBounds o x) T (0,0)):=by
 simp[World.setCell,Xl,hb]
theorem TT (w:World) (b o:Nat) (x:Value):Abs.BH w (w.setCell ⟨b,o,none⟩ x):=λk hk arr ty fz he=>by
 by_cases hkb:k=b
 .subst hkb;simp only[World.setCell,Xl,if_true]at he;obtain⟨ob,h1,h2⟩:=Xk.1 he
  cases ob with
  | cells c e f=>
   simp only[Option.isSome_none,Bool.false_eq_true,if_false]at h2;injection h2 with h3 h4 h5;subst h3;subst h4;exact⟨c,f,h1,by simp⟩
  | _=>simp at h2
 .rw[show(w.setCell ⟨b,o,none⟩ x).heap[k]?=w.heap[k]? from Below.heap_setCell _ _ _ _ hkb]at he;exact⟨arr,fz,he,rfl⟩
theorem k9 (L:Lays.n166 P ρ) (X:Builder.Extra P ρ) (hlies:∀k,1<=k->liesAt P P.depth (ρ.t 72) k 0 (ρ.t 72) 1=true) (hc2:P.cellsOf (ρ.t 72)=2) (b:Nat) (arr:Array Value) (p v:Value) (xs:List Value) (s:ByteArray) (w:World) (hp:p = .pointer none\/p = .pointer (some ⟨b,0,none⟩))
  (hb:w.heap[b]?=some (.cells arr (ρ.t 72) (0,0))) (ha0:arr[0]?=some p) (ha1:arr[1]?=some v)
  (hown0:Buf (ρ.t 5) w v xs.length xs) (hne:v.ownBlock≠some b) (hlen:xs.length+s.size<=140737488355328) :
  Calls P (ρ.f 166) #[.pointer (some ⟨b,0,none⟩),.string s] w λe w'=>e = .returned (.tuple #[.int .i64 s.size,.nilIface]) /\
   ∃v',w'.heap[b]?=some (.cells ((arr.setIfInBounds 0 (.pointer (some ⟨b,0,none⟩))).setIfInBounds 1 v') (ρ.t 72) (0,0))/\Buf (ρ.t 5) w' v' (xs.length+s.size) (xs++Lib.strCells s)/\v'.ownBlock≠some b/\LA w w' (some b) v.ownBlock v'.ownBlock:=by
 obtain⟨i0,hi,hz0,hz1,hz2⟩:=info_parts X.infoByte;have mixed:=L.mixed;have t72:=L.t72;have a72:=L.a72;have z72:=L.z72;have v72:=L.v72;have u72:=run_underlying L.t72;have t70:=L.t70;have a70:=L.a70;have z70:=L.z70;have v70:=L.v70;have u70:=run_underlying L.t70;have t37:=L.t37;have a37:=L.a37;have z37:=L.z37;have v37:=L.v37;have u37:=run_underlying L.t37;have t3:=L.t3;have a3:=L.a3;have z3:=L.z3;have v3:=L.v3;have u3:=run_underlying L.t3;have t9:=L.t9;have a9:=L.a9;have z9:=L.z9;have v9:=L.v9;have u9:=run_underlying L.t9;have t4:=L.t4;have a4:=L.a4;have z4:=L.z4;have v4:=L.v4;have u4:=run_underlying L.t4;have t164:=L.t164;have a164:=L.a164;have z164:=L.z164;have v164:=L.v164;have u164:=run_underlying L.t164;have t5:=X.t5;have a5:=X.a5;have z5:=X.z5;have v5:=X.v5;have u5:=run_underlying X.t5;have e240:∀args w,(callFunc (ρ.f 240) args).run P w = .ok (.enter (ρ.f 240) args) w:=enters_of L.f240 (by kernel_rfl) rfl;have hblt:b<w.heap.size:=(Xm.1 hb).1;have hsz:1<arr.size:=(Xm.1 ha1).1
 obtain⟨arr1,harr1⟩:∃arr1,arr1=arr.setIfInBounds 0 (.pointer (some ⟨b,0,none⟩)):=⟨_,rfl⟩
 have h10:arr1[0]?=some (.pointer (some ⟨b,0,none⟩)):=by rw[harr1,Xn,zu rfl,zu (by omega)]
 have h11:arr1[1]?=some v:=by rw[harr1,Xn,zw (by omega),ha1]
 rw[<-harr1]
 have hcc:Calls P (ρ.f 240) #[.pointer (some ⟨b,0,none⟩)] w λe w'=>e = .returned (.tuple #[])/\w'.heap[b]?=some (.cells arr1 (ρ.t 72) (0,0))/\Buf (ρ.t 5) w' v xs.length xs/\w'.heap.size=w.heap.size/\w'.os=w.os/\w'.tape=w.tape/\w'.output=w.output/\(∀k,k≠b->w'.heap[k]?=w.heap[k]?)/\Abs.BH w w':=by
  rcases hp with rfl | rfl
  .refine(jZ { L with } X.toX72 b arr.size w (by rw[Lib.cell_of_heap hb,ha0]) (by omega) (by simp[World.shape?,hb]) (by rw[hc2];exact hlies _ (by omega)) (Lib.frozen_of_heap hb 0)).mono ?_;rintro e w' ⟨rfl,rfl⟩;have hk:∀k,k≠b->(w.setCell ⟨b,0,none⟩ (.pointer (some ⟨b,0,none⟩))).heap[k]?=w.heap[k]?:=λk hk=>Below.heap_setCell _ _ _ _ hk;refine⟨rfl,by rw[harr1];exact TS hb _,?_,by simp[World.setCell],rfl,rfl,rfl,hk,TT _ _ _ _⟩;exact hown0.keep λk e=>hk k (λe2=>hne (by rw[e,e2]))
  .refine(Any.Builder_copyCheck_used { L with } X.toX72 b w (by rw[Lib.cell_of_heap hb,ha0])).mono ?_;rintro e w' ⟨rfl,rfl⟩
   have e1:arr1=arr:=by
    rw[harr1];apply Array.ext (by simp);intro k hk1 hk2;rw[Array.getElem_setIfInBounds (by simpa using hk2)];split
    .rename_i e;subst e;rw[Array.getElem?_eq_getElem hk2]at ha0;injection ha0 with ha0;exact ha0.symm
    .rfl
   exact⟨rfl,by rw[e1];exact hb,hown0,rfl,rfl,rfl,rfl,λk _=>rfl,Abs.BH.refl _⟩
 go_enter L.f166,Body.n166_ntmps ρ
 go_wp2_with (go_at_fn (ρ.f 240);refine hcc.mono ?_)
 rintro e w1 ⟨rfl,hbk,hown,hsz1,ho1,ho2,ho3,hk1,hsh1⟩
 have c0:w1.cell? ⟨b,0,none⟩=some (.pointer (some ⟨b,0,none⟩)):=by rw[Lib.cell_of_heap hbk,h10]
 have c1:w1.cell? ⟨b,1,none⟩=some v:=by rw[Lib.cell_of_heap hbk,h11]
 go_wp2_with (at_builtin;refine jY rfl _ _ (ρ.t 37) (ρ.t 9) rfl (ρ.t 5) i0 L.t37 L.t9 hi hz0 hz1 hz2 _ _ _ rfl hown s rfl ?c4 ?_)
 case c4=>omega
 intro v' w2 hown' hgrow;have hfresh:=hgrow.fresh;have hsh2:=hgrow.shape
 have hb2:w2.heap[b]?=some (.cells arr1 (ρ.t 72) (0,0)):=by
  rw[hgrow.block b (by omega) (by simp) (λe=>hne e.symm)];exact hbk
 have d0:w2.cell? ⟨b,0,none⟩=some (.pointer (some ⟨b,0,none⟩)):=by rw[Lib.cell_of_heap hb2,h10]
 have d1:w2.cell? ⟨b,1,none⟩=some v:=by rw[Lib.cell_of_heap hb2,h11]
 have f1:w2.frozen? ⟨b,1,none⟩=false:=Lib.frozen_of_heap hb2 1
 have hvo:v'.ownBlock≠some b:=by
  rcases hfresh with h | h
  .rw[h];exact hne
  .rw[h];intro e;injection e with e;omega
 obtain⟨ao,n',cap,rfl⟩:∃ao n' cap,v' = .slice ao n' cap:=by
  rcases hown'.2 with⟨hv,_⟩ | ⟨g,cap,cur,hv,_⟩
  .exact⟨_,_,_,hv⟩
  .exact⟨_,_,_,hv⟩
 go_wp2
 go_ret2
 have hk2:∀k,k≠b->(w2.setCell ⟨b,1,none⟩ (.slice ao n' cap)).heap[k]?=w2.heap[k]?:=λk hk=>Below.heap_setCell _ _ _ _ hk;refine⟨rfl,.slice ao n' cap,TS hb2 _,?_,hvo,⟨hgrow.os.trans ho1,hgrow.tape.trans ho2,hgrow.output.trans ho3,?_,λk hk hkb hkr=>?_,?_,?_⟩⟩
 .exact hown'.keep λk e=>hk2 k (λe2=>hvo (by rw[e,e2]))
 .have:=hgrow.size;simp only[World.setCell,Array.size_modify];omega
 .have hkb':k≠b:=λe=>hkb (by rw[e]);rw[hk2 k hkb',hgrow.block k (by omega) (by simp) hkr,hk1 k hkb']
 .exact(hsh1.trans (by omega) hsh2).trans (by have:=hgrow.size;omega) (TT _ _ _ _)
 .rwa[hsz1]at hfresh
theorem kA (k:Nat) (hk:1<=k):liesAt Xc Xc.depth 114 k 0 114 1=true:=by
 obtain⟨d,hd⟩:∃d,Xc.depth=d+1:=⟨Xc.depth-1,by kernel_rfl⟩
 have hs:Xc.cellsOf 114=2:=by kernel_rfl
 have hf:sameLayout Xc Xc.depth 114 114=true:=by kernel_rfl
 rw[hd]at hf ⊢;rw[liesAt,hd,rowAt];simp only[hs,hf]
 have:0+1<=k:=by omega
 simp[hk]
end Go.Proofs.YtmgjopafgboljaaGreatDoor
