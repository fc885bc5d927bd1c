/-
 Auxiliary facts. No statement of the program stands here.
-/
import Derived.Test.YtmplckgbeaifkaaGreatDoorVBQ35
import Derived.Test.YtmplckgbeaifkaaGreatDoorVBQ36
namespace Go.Proofs.YtmplckgbeaifkaaGreatDoor
set_option linter.unusedSimpArgs false
set_option linter.unusedVariables false
open Go Go.Abs
variable {q : Gl}
theorem F1f {F:FuncId} {z ty n:Nat} (i0:TypeInfo) (zv:Value) (hF:IsFn Tryz.prog F) (hz0:zv.cells.size=i0.size) (hz:i0.size=z) (hpos:0<z)
  (h0:∀w,Calls Tryz.prog F #[.slice none 0 0,.int .i64 (0:Nat)] w fun e w'=>e = .returned (.slice none 0 0)/\w'=w)
  (h1:0<n->∀w,Calls Tryz.prog F #[.slice none 0 0,.int .i64 n] w fun e w'=>e = .returned (.slice (some ⟨w.heap.size,0,none⟩) 0 (grownCap w (0+n) 0 ty)) /\
   w'=w.drew.alloc (.cells (([]:List Value).toArray++Builtin.zeroCells zv.cells (0+n-0)++Builtin.zeroCells zv.cells (grownCap w (0+n) 0 ty-(0+n))) ty)) {H:Heap} {nx:Nat} :
  A2g Tryz.prog (G q) F [.t nilS,.t (iv (n:Int))] H nx (if n=0 then .t nilS else .row nx 0 0 z) (if n=0 then H else(nx,.cells ty [])::H) (if n=0 then nx else nx+1):=by
 refine⟨hF,fun L w us hok hnx hargs=>?_⟩
 have hus:us = #[.slice none 0 0,.int .i64 n]:=by
  simp only[A0r,RepV,RepT]at hargs;obtain⟨x,xs,e,rfl,y,ys,rfl,rfl,rfl⟩:=hargs;exact Array.ext' e
 subst hus;by_cases hn:n=0
 ·subst hn;refine(h0 w).mono ?_;rintro e w' ⟨rfl,rfl⟩;exact⟨_,L,rfl,by simp[RepV,RepT],by simpa using hok,by simpa using hnx,Mono.refl L _,by simpa using Ext.refl L H _⟩
 ·refine(h1 (by omega) w).mono ?_;rintro e w' ⟨rfl,rfl⟩;simp only[if_neg hn];have hge:=grownCap_ge w (0+n) 0 ty
  obtain⟨C,hC⟩:∃C,C=grownCap w (0+n) 0 ty:=⟨_,rfl⟩
  rw[<-hC]at hge ⊢
  obtain⟨arr,harr⟩:∃arr,arr=([]:List Value).toArray++Builtin.zeroCells zv.cells (0+n-0)++Builtin.zeroCells zv.cells (C-(0+n)):=⟨_,rfl⟩
  have hsz:arr.size=C*z:=by
   rw[harr];simp only[Builtin.zeroCells,Array.size_append,Array.size_map,Array.size_range,hz0,hz];rw[show([]:List Value).toArray.size=0 from rfl,Nat.zero_add,<-Nat.add_mul];congr 1;omega
  rw[<-harr]
  have hnew:(w.drew.alloc (.cells arr ty)).heap[w.heap.size]?=some (.cells arr ty (0,0)):=by
   show(w.heap.push (.cells arr ty (0,0)))[w.heap.size]?=_;rw[Array.getElem?_push,if_pos rfl]
  have hns:w.heap.size<(w.drew.alloc (.cells arr ty)).heap.size:=by
   show w.heap.size<(w.heap.push _).size;rw[Array.size_push];omega
  obtain⟨h1,h2,h3⟩:=B8b (r:=.cells ty []) (w':=w.drew.alloc (.cells arr ty)) (o:=.cells arr ty) hok ⟨rfl,rfl,rfl⟩ rfl ⟨arr,hnew,by simp,fun j c hj=>by simp at hj⟩;rw[hnx]at h1 h3;refine⟨_,L.grow w.heap.size,rfl,?_,h1,by simp[Loc.grow,hnx],h2,h3⟩;simp only[RepV,Loc.grow,hnx,if_true];refine⟨by omega,hns,C,rfl,by omega,fun a t fz he=>?_⟩;rw[hnew]at he;injection he with he;injection he with e1 e2 e3;subst e1;omega
theorem E0i {H:Heap} {nx n:Nat} (hn:n<=1000000) :
  A2g Tryz.prog (G q) 186 [.t nilS,.t (iv (n:Int))] H nx (if n=0 then .t nilS else .row nx 0 0 4) (if n=0 then H else(nx,.cells 59 [])::H) (if n=0 then nx else nx+1):=by
 obtain⟨i0,hi0⟩:∃i0,Tryz.prog.info? 59=some i0:=⟨(Tryz.prog.info? 59).get!,by kernel_rfl⟩
 obtain⟨zv,hz0⟩:∃zv,i0.zero=some zv:=by
  have:((Tryz.prog.info? 59).bind (·.zero)).isSome=true:=by kernel_rfl
  rw[hi0]at this;exact Option.isSome_iff_exists.1 this
 have hsz:i0.size=4:=by
  have:(Tryz.prog.info? 59).map (·.size)=some 4:=by kernel_rfl
  rw[hi0]at this;injection this
 have hby:i0.bytes=40:=by
  have:(Tryz.prog.info? 59).map (·.bytes)=some 40:=by kernel_rfl
  rw[hi0]at this;injection this
 have hzs:zv.cells.size=i0.size:=by
  have:((Tryz.prog.info? 59).bind (·.zero)).map (·.cells.size)=some 4:=by kernel_rfl
  rw[hi0]at this;simp only[Option.bind_some,hz0,Option.map_some,Option.some.injEq]at this;omega
 exact F1f (ty:=59) (z:=4) i0 zv ⟨_,(Tryz.f186.body).get!,Tryz.func186,by kernel_rfl,by kernel_rfl⟩ hzs hsz (by omega)
  (fun w=>Any8.slices_Grow_room Tryz.growP none 0 0 0 w (by omega) (by omega) (by omega) (by omega))
  (fun hp w=>Any8.slices_Grow_grow Tryz.growP i0 zv hi0 hz0 (by omega) none 0 0 n [] w (by omega) (by omega) (by rw[hby];omega) (by omega) (by simp) (fun _=>rfl) (fun a h=>by cases h))
theorem E0j {P:Program} {G:A0u} {α β:Type} {e:Enc α} {e':Enc β} {ty ty':Nat} {f:FuncId} {ar:List T} {l:List α} {m:List β} (h:A2g P G f (rowP e 0 l::ar.map .t) (rowH e ty 0 l) 1 (rowP e' 1 m) (rowH e' ty' 1 m) 2)
  {H:Heap} {nx g:Nat} (hg:A0p e ty H g l) (hgn:g<nx) :
  A2g P G f (rowP e g l::ar.map .t) H nx (rowP e' nx m) (rowH e' ty' nx m++(if l=[]then H else rem H g)) (nx+1):=by
 have:=h.lift (fun _=>g) nx H (rowH e' ty' nx m++(if l=[]then H else rem H g)) (fun b _=>hgn) (fun b c hb hc _=>by omega) (by omega) (fun x hx=>?_) ?_ ?_ (fun x hx=>?_) (fun b x hb=>?_)
 ·have e1:renL (fun _=>g) (rowP e 0 l::ar.map .t)=rowP e g l::ar.map .t:=by
   rw[renL,A2b,F2p]
  have e2:ren (A2u (fun _=>g) 1 nx) (rowP e' 1 m)=rowP e' nx m:=by
   rw[A2b];congr 1
  rw[e1,e2]at this;exact this
 ·obtain⟨hn,rfl⟩:=A2e hx;exact⟨by rw[A2a];exact hg.resolve_left hn,by show 0<1;omega,A1k _ _ _ _⟩
 ·rw[A1w,A1j _ _ _ _ (by omega),A2f];rfl
 ·exact A1j _ _ _ _ (by omega)
 ·obtain⟨hn,rfl⟩:=A2e hx;exact⟨by show 1<2;omega,A1k _ _ _ _⟩
 ·by_cases hm:m=[]
  ·right;subst hm;simp only[rowH,List.nil_append]at hb
   by_cases hl:l=[]
   ·rw[if_pos hl]at hb;refine⟨hb,fun b0 x0 h0=>?_⟩;subst hl;simp only[rowH,look_nil]at h0;cases h0
   ·rw[if_neg hl]at hb;rw[A2i]at hb;split at hb
    ·cases hb
    ·rename_i hne;exact⟨hb,fun b0 x0 _=>Ne.symm hne⟩
  ·have e1:rowH e' ty' nx m=[(nx,A1b e' ty' m)]:=by
    cases m with
    | nil=>exact absurd rfl hm
    | cons x r=>rfl
   have e2:rowH e' ty' 1 m=[(1,A1b e' ty' m)]:=by
    cases m with
    | nil=>exact absurd rfl hm
    | cons x r=>rfl
   rw[e1,List.singleton_append,look_cons]at hb;split at hb
   ·rename_i hbn;injection hb with hb;subst hbn;subst hb;exact .inl ⟨1,A1b e' ty' m,by rw[e2];rfl,rfl,by rw[A2a]⟩
   ·right
    by_cases hl:l=[]
    ·rw[if_pos hl]at hb;refine⟨hb,fun b0 x0 h0=>?_⟩;subst hl;simp only[rowH,look_nil]at h0;cases h0
    ·rw[if_neg hl]at hb;rw[A2i]at hb;split at hb
     ·cases hb
     ·rename_i hne;exact⟨hb,fun b0 x0 _=>Ne.symm hne⟩
theorem C0y {β:Type} {e':Enc β} {ty':Nat} {m:List β} {H:Heap} {nx g:Nat} {p:Prop} [Decidable p] (hf:∀b x,Abs.look H b=some x->b<nx):∀b x,Abs.look (rowH e' ty' nx m++(if p then H else rem H g)) b=some x->b<nx+1:=by
 intro b x hb;rw[D3m]at hb
 cases h1:Abs.look (rowH e' ty' nx m) b with
 | some y=>
  cases m with
  | nil=>simp[rowH]at h1
  | cons z r=>
   simp only[rowH,look_cons,look_nil]at h1;split at h1
   ·omega
   ·cases h1
 | none=>
  rw[h1]at hb;simp only[Option.none_or]at hb;split at hb
  ·have:=hf b x hb;omega
  ·rw[A2i]at hb;split at hb
   ·cases hb
   ·have:=hf b x hb;omega
def F1g (q:Gl) (d:Dv):Prop:=∀(c:List T) (l:List Pr),Abs.IsD d c->l.length+2*nodD d<=1000000 ->
 A2g Tryz.prog (G q) 116 (rowP ePr 0 l::[T.ag c].map .t) (rowH ePr 59 0 l) 1 (rowP ePr 1 (l++colP d)) (rowH ePr 59 1 (l++colP d)) 2
theorem E6h {d:Dv} (hd:F1g q d) {c:List T} (hc:Abs.IsD d c) {H:Heap} {nx g:Nat} {l:List Pr} (hg:A0p ePr 59 H g l) (hgn:g<nx) (hl:l.length+2*nodD d<=1000000) :
  HOK Tryz.prog (G q) 116 (hOne [rowP ePr g l,.t (.ag c)] H nx (rowP ePr nx (l++colP d),rowH ePr 59 nx (l++colP d)++(if l=[]then H else rem H g),nx+1)):=
 A3h (E0j (hd c l hc hl) hg hgn) (fun hf=>C0y hf)
def SCo (tk:T) (n:Nat) (a:Nat×List Pr):A0b:=⟨[(46,.t (iv (a.1:Int))),(45,.t (iv (n:Int))),(44,.t tk),(0,rowP ePr 1 a.2)],rowH ePr 59 1 a.2,2,55⟩
theorem B3d:∀a b:List Dv,nodK (a++b)=nodK a+nodK b
 | [],b=>by simp[nodK]
 | d::r,b=>by rw[List.cons_append,nodK,B3d r b,nodK];omega
theorem C4d {ks:List Dv} {j:Nat} {x:Dv} (hx:ks[j]?=some x):nodK (ks.take j)+nodD x<=nodK ks:=by
 have hlt:=(List.getElem?_eq_some_iff.1 hx).1
 have:ks=ks.take j++(x::ks.drop (j+1)):=by
  rw[<-(List.getElem?_eq_some_iff.1 hx).2,<-List.drop_eq_getElem_cons hlt,List.take_append_drop]
 have e:=congrArg nodK this;rw[B3d,nodK]at e;omega
theorem bd3a {Φ:A0v} {H:Heap} {nx:Nat} (b:ByteArray) (c d:Int):A0e Φ H nx (.build [(0,1),(1,1),(2,1),(3,1)] [.int .i64 0,.string ⟨#[]⟩,.int .i64 0,.int .i64 0] [1,2,3]) [.t (sv b),.t (iv c),.t (iv d)]=some (.t (.ag (ePr.enc ⟨0,b,c,d⟩)),H,nx):=rfl
theorem F8p (m:Nat) (x y:Pr):A3l 59 4 [.int .i64 0,.string ⟨#[]⟩,.int .i64 0,.int .i64 0] 2 [(0,.t (.ag (ePr.enc x))),(1,.t (.ag (ePr.enc y)))] m=some (.row m 0 2 4,.cells 59 ((ePr.enc x).map .t++(ePr.enc y).map .t)):=rfl
theorem E6i {H:Heap} {b nx:Nat} {l m:List Pr} (k:Nat) (hk:k=m.length) (hr:A0p ePr 59 H b l) (hs:Abs.look H nx=some (.cells 59 ((m.flatMap ePr.enc).map .t))) (hb:b<nx) (hm:m≠[]) (hl:l.length+m.length<=1000000) (nx1 nx2:Nat) (h1:nx1=nx+1) (h2:nx2=nx+2) :
  ∃H',appM 59 4 40 H nx1 (rowP ePr b l) (.row nx 0 k 4)=some (rowP ePr nx1 (l++m),H',nx2)/\A0p ePr 59 H' nx1 (l++m)/\∀c,c≠nx1->c≠b->Abs.look H' c=Abs.look H c:=by
 subst h1;subst h2;subst hk
 have hne:(l++m).isEmpty=false:=by
  cases m with
  | nil=>exact absurd rfl hm
  | cons x r=>cases l<;>rfl
 have hsrc:srcP H ePr.z (.row nx 0 m.length 4)=some (m.length,(m.flatMap ePr.enc).map .t):=by
  have hln:((m.flatMap ePr.enc).map PV.t).length=m.length*4:=by rw[List.length_map,A1i];rfl
  have hz:ePr.z=4:=rfl;simp only[srcP,hs,hz];rw[if_pos ⟨trivial,by rw[hln];omega⟩,List.drop_zero,<-hln,List.take_length]
 have:=B5q (by':=40) (nx:=nx+1) hr hsrc (by omega) (by omega)
 have en:appN (nx+1) l m=nx+2:=by unfold appN;rw[hne];rfl
 rw[en]at this;exact⟨_,this,A0p.app,fun c h1 h2=>A8h h1 h2⟩
set_option maxHeartbeats 1000000 in
theorem F1h {k f t:Int} {nm:ByteArray} {ks:List Dv} (hkids:∀x∈ks,F1g q x):F1g q (.mk k nm f t ks):=fun c l h hl=>by
 obtain⟨tk,rfl,hk⟩:=h.parts;have cd:=A3o k nm f t tk;have lk:=hk.len;have nk:=A6t ks;rw[nodD]at hl
 obtain⟨P0,hP0⟩:∃P0:List Pr,P0=(if k=0 then [⟨0,nm,f,t⟩]else if k=1 then [⟨1,nm,f,t⟩]else if k=2 then [⟨2,nm,f,t⟩,⟨3,⟨#[]⟩,f,t⟩]else []):=⟨_,rfl⟩
 have hP0l:P0.length<=2:=by
  rw[hP0];split
  ·simp
  ·split
   ·simp
   ·split<;>simp
 rw[colP,<-hP0]
 obtain⟨R,hR⟩:∃R,R=l++(P0++colK ks):=⟨_,rfl⟩
 rw[<-hR];refine C1x.callP rfl ?_;unfold B2i
 obtain⟨H0,hH0⟩:∃H0,H0=rowH ePr 59 0 l:=⟨_,rfl⟩
 have r0:A0p ePr 59 H0 0 l:=by rw[hH0];exact A0p.head' _ _ _ _
 rw[<-hH0];simp only[List.map_cons,List.map_nil];refine A0a A0x ?_;simp -implicitDefEqProofs [cd]
 obtain⟨X,hX⟩:∃X,X=dRow k nm f t tk:=⟨_,rfl⟩
 rw[show Row.cells 26 [.t (iv k),.t (sv nm),.t (iv f),.t (iv t),.t tk]=X from hX.symm]
 have ld:∀(H:Heap),Abs.look H 1=some X->A0g false 1 H (.ptr 1 0)=some (.t (iv k))/\A0g false 1 H (.ptr 1 1)=some (.t (sv nm))/\A0g false 1 H (.ptr 1 2)=some (.t (iv f))/\A0g false 1 H (.ptr 1 3)=some (.t (iv t))/\A0g false 1 H (.ptr 1 4)=some (.t tk):=fun H h=>by
  rw[hX]at h;simp[A0g,h,dRow]
 obtain⟨H1,hH1⟩:∃H1,H1=(1,X)::H0:=⟨_,rfl⟩
 rw[<-hH1]
 have x1:Abs.look H1 1=some X:=by rw[hH1];rfl
 obtain⟨d0,d1,d2,d3,d4⟩:=ld H1 x1
 have r1:A0p ePr 59 H1 0 l:=by rw[hH1];exact r0.cons (by omega)
 obtain⟨H2,hH2⟩:∃H2,H2=(2,pRow ⟨0,nm,f,t⟩)::H1:=⟨_,rfl⟩
 have st2:A0t 4 ((2,pRow zPr)::H1) (.ptr 2 0) (.t (.ag (ePr.enc ⟨0,nm,f,t⟩)))=some H2:=by rw[hH2];rfl
 have st2:A0t 4 ((2,Row.cells 59 [.t (.v (.int .i64 0)),.t (.v (.string ⟨#[]⟩)),.t (.v (.int .i64 0)),.t (.v (.int .i64 0))])::H1) (.ptr 2 0) (.t (.ag (ePr.enc ⟨0,nm,f,t⟩)))=some H2:=st2;refine A0a A0x ?_;simp -implicitDefEqProofs [d1,d2,d3,bd3a,st2,-evalK_build]
 have x2:Abs.look H2 1=some X:=by rw[hH2];exact x1
 obtain⟨g0,g1,g2,g3,g4⟩:=ld H2 x2
 have r2:A0p ePr 59 H2 0 l:=by rw[hH2];exact r1.cons (by omega)
 refine A0o (α:=Unit) (fun _=>⟨[(3,.ptr 1 0),(0,rowP ePr 2 (l++P0))],[(1,X)]++rowH ePr 59 2 (l++P0),3,55⟩) (fun _=>True) (fun _=>rfl) ?_ ?_
 ·refine A0a A0x ?_;simp -implicitDefEqProofs [g0];refine A0f ?_
  have fin:∀(Hz:Heap) (env:List (Nat×PV)) (nz b:Nat),Abs.look env 3=some (.ptr 1 0)->Abs.look env 0=some (rowP ePr b (l++P0))->Abs.look Hz 1=some X->A0p ePr 59 Hz b (l++P0)->b≠1->Sub Tryz.prog (G q) 1 ⟨env,Hz,nz,55⟩ ⟨[(3,.ptr 1 0),(0,rowP ePr 2 (l++P0))],[(1,X)]++rowH ePr 59 2 (l++P0),3,55⟩:=fun Hz env nz b h3 h0 hx hr hb=>by
   refine B8g (k:=b) hr (by omega) (by omega) (fun x hx'=>?_) (fun x hx'=>?_)
   ·simp only[List.mem_singleton]at hx';subst hx';exact⟨by rw[hx,hX];rfl,by show 1<3;omega,by show 1≠2;omega,Ne.symm hb,by rw[hX];rfl⟩
   ·simp only[List.mem_cons,List.not_mem_nil,or_false]at hx';rcases hx' with rfl | rfl
    ·exact⟨h3,rfl⟩
    ·refine⟨?_,A1j _ _ _ _ (by omega)⟩;rw[A2b];exact h0
  by_cases k0:k=0
  ·rw[if_pos k0]at hP0
   have stk:A0t 1 H2 (.ptr 2 0) (.t (iv 0))=some H2:=by rw[hH2];rfl
   have ldp:A0g true 4 H2 (.ptr 2 0)=some (.t (.ag (ePr.enc ⟨0,nm,f,t⟩))):=by rw[hH2];rfl
   obtain⟨H4,ap,ra,old⟩:=E6i (H:=(3,.cells 59 ((ePr.enc ⟨0,nm,f,t⟩).map .t))::H2) (b:=0) (nx:=3) (l:=l) (m:=P0) 1 (by rw[hP0];rfl) (r2.cons (by omega)) (by rw[hP0];rfl) (by omega) (by rw[hP0];simp) (by omega) 4 5 rfl rfl;refine A0c A0x ?_;simp -implicitDefEqProofs [k0,stk,ldp,C2a,ap];exact Abs.Next.mk () trivial (fin _ _ _ 4 rfl rfl (by rw[old 1 (by omega) (by omega)];exact x2) ra (by omega))
  ·rw[if_neg k0]at hP0;by_cases k1:k=1
   ·rw[if_pos k1]at hP0
    obtain⟨H3,hH3⟩:∃H3,H3=(2,pRow ⟨1,nm,f,t⟩)::H1:=⟨_,rfl⟩
    have stk:A0t 1 H2 (.ptr 2 0) (.t (iv 1))=some H3:=by rw[hH2,hH3];rfl
    have ldp:A0g true 4 H3 (.ptr 2 0)=some (.t (.ag (ePr.enc ⟨1,nm,f,t⟩))):=by rw[hH3];rfl
    obtain⟨H4,ap,ra,old⟩:=E6i (H:=(3,.cells 59 ((ePr.enc ⟨1,nm,f,t⟩).map .t))::H3) (b:=0) (nx:=3) (l:=l) (m:=P0) 1 (by rw[hP0];rfl) (by rw[hH3];exact(r1.cons (by omega)).cons (by omega)) (by rw[hP0];rfl) (by omega) (by rw[hP0];simp) (by omega) 4 5 rfl rfl;refine A0c A0x ?_;simp -implicitDefEqProofs [k1,stk,ldp,C2a,ap];exact Abs.Next.mk () trivial (fin _ _ _ 4 rfl rfl (by rw[old 1 (by omega) (by omega),hH3];exact x1) ra (by omega))
   ·rw[if_neg k1]at hP0;by_cases k2:k=2
    ·rw[if_pos k2]at hP0
     obtain⟨H3,hH3⟩:∃H3,H3=(2,pRow ⟨2,nm,f,t⟩)::H1:=⟨_,rfl⟩
     have stk:A0t 1 H2 (.ptr 2 0) (.t (iv 2))=some H3:=by rw[hH2,hH3];rfl
     have ldp:A0g true 4 H3 (.ptr 2 0)=some (.t (.ag (ePr.enc ⟨2,nm,f,t⟩))):=by rw[hH3];rfl
     have x3:Abs.look H3 1=some X:=by rw[hH3];exact x1
     obtain⟨_,_,f2,f3,_⟩:=ld H3 x3;obtain⟨H4,ap,ra,old⟩:=E6i (H:=(3,.cells 59 ((ePr.enc ⟨2,nm,f,t⟩).map .t++(ePr.enc ⟨3,⟨#[]⟩,f,t⟩).map .t))::H3) (b:=0) (nx:=3) (l:=l) (m:=P0) 2 (by rw[hP0];rfl) (by rw[hH3];exact(r1.cons (by omega)).cons (by omega)) (by rw[hP0];rfl) (by omega) (by rw[hP0];simp) (by omega) 4 5 rfl rfl;refine A0c A0x ?_;simp -implicitDefEqProofs [k2,stk,ldp,f2,f3,bd3,F8p,ap,-evalK_build];exact Abs.Next.mk () trivial (fin _ _ _ 4 rfl rfl (by rw[old 1 (by omega) (by omega),hH3];exact x1) ra (by omega))
    ·rw[if_neg k2]at hP0;subst hP0;refine A0c A0x ?_;simp -implicitDefEqProofs [k0,k1,k2];refine Abs.Next.mk () trivial ?_;simp only[List.append_nil]at fin;exact fin H2 _ _ 0 rfl rfl x2 r2 (by omega)
 rintro _ -;have l4:∀R:Heap,A0g false 1 ((1,X)::R) (.ptr 1 4)=some (.t tk):=fun R=>(ld _ rfl).2.2.2.2;refine A0o (α:=Unit) (fun _=>⟨[(0,rowP ePr 1 R)],rowH ePr 59 1 R,2,55⟩) (fun _=>True) (fun _=>rfl) ?_ ?_
 ·refine A0a A0x ?_;simp -implicitDefEqProofs [l4,lk];refine A0f ?_;refine A0k (SCo tk ks.length) (fun a=>ks.length-a.1) (fun a=>a.1<=ks.length/\a.2=l++(P0++colK (ks.take a.1))) (0,l++P0) (fun _=>rfl) ⟨Nat.zero_le _,by simp[colK]⟩ ?_ rfl ?_
  ·refine A9e (k:=2) ?_ (by omega) (by omega) ?_
   ·exact(A0p.head' _ _ _ _).cons (by omega)
   ·simp -implicitDefEqProofs [A2b,A1j,ren,under]
  rintro⟨j,cur⟩ ⟨hj,hcur⟩;simp only at hj hcur;by_cases hlt:j<ks.length
  ·obtain⟨x,hx⟩:∃x,ks[j]?=some x:=⟨_,List.getElem?_eq_getElem hlt⟩
   obtain⟨pp,cx,i1,ldx,hcx⟩:=A5d hk hx;have hxn:=C4d hx;have hc:=B8r (ks.take j);have e1:IntKind.i64.wrap ((j:Int)+1)=((j+1:Nat):Int):=A0h (by omega) (by omega)
   have hcl:cur.length+2*nodD x<=1000000:=by
    rw[hcur,List.length_append,List.length_append];omega
   have hnext:cur++colP x=l++(P0++colK (ks.take (j+1))):=by rw[hcur,D0g hx];simp
   obtain⟨Hc,hHc⟩:∃Hc,Hc=rowH ePr 59 1 cur:=⟨_,rfl⟩
   have rc:A0p ePr 59 Hc 1 cur:=by rw[hHc];exact A0p.head' _ _ _ _
   obtain⟨Hd,hHd⟩:∃Hd:Heap,Hd=(2,.cells 26 (cx.map .t))::Hc:=⟨_,rfl⟩
   have rd:A0p ePr 59 Hd 1 cur:=by rw[hHd];exact rc.cons (by omega)
   have st:A0t 5 (zD5 2::Hc) (.ptr 2 0) (.t (.ag cx))=some Hd:=by rw[hHd];exact A7d 2 Hc x hcx
   have ldd:A0g true 5 Hd (.ptr 2 0)=some (.t (.ag cx)):=by rw[hHd];exact A9i 2 Hc x hcx
   have C:Ctx Tryz.prog (G q) _:=A0y.nil.ctxH (A2s.cons (E6h (hkids x (List.mem_of_getElem? hx)) hcx (nx:=3) rd (by omega) hcl) .nil) mixed;have eo:=A3b [rowP ePr 1 cur,.t (.ag cx)] Hd 3 (rowP ePr 3 (cur++colP x),rowH ePr 59 3 (cur++colP x)++(if cur=[]then Hd else rem Hd 1),3+1);unfold SCo;rw[<-hHc];refine A0c C ?_;simp -implicitDefEqProofs [hlt,i1,ldx,st,ldd,eo,e1];refine Abs.Next.mk (j+1,cur++colP x) ⟨⟨by show j+1<=_;omega,hnext⟩,by show ks.length-(j+1)<ks.length-j;omega⟩ ?_;refine A9e (k:=3) (A0p.head _ _ _ _ _) (by omega) (by omega) ?_;simp -implicitDefEqProofs [A2b,A1j,ren,under]
  ·have e:cur=R:=by rw[hcur,hR,List.take_of_length_le (by omega)]
   subst e;unfold SCo;refine A0c A0x ?_;simp -implicitDefEqProofs [hlt];exact Abs.Next.mk () trivial (A0d (by simp -implicitDefEqProofs))
 ·rintro _ -;refine A0c A0x ?_;simp -implicitDefEqProofs;exact⟨.inr rfl,_,_,Sub.refl _,rfl,rfl,rfl,rfl⟩
theorem F8q:∀(n:Nat) (d:Dv),nodD d<=n->F1g q d
 | 0,.mk k nm f t ks,h=>by rw[nodD]at h;omega
 | n+1,.mk k nm f t ks,h=>by
  rw[nodD]at h;exact F1h fun x hx=>F8q n x (by have:=A7c hx;omega)
theorem C6p {α:Type} (e:Enc α) (b:Nat) {l m:List α} (h:l.length=m.length):rowP e b l=rowP e b m:=by
 cases l with
 | nil=>cases m with
  | nil=>rfl
  | cons _ _=>simp at h
 | cons x r=>cases m with
  | nil=>simp at h
  | cons y s=>simp only[rowP];rw[h]
theorem F5j {α:Type} {e:Enc α} {ty b n z:Nat} {m:List α} {H:Heap} (h:Abs.look H b=some (A1b e ty m)) (hz:e.z=z) (hn:n<=m.length):toT H (.row b 0 n z)=some (.sl n ((m.take n).flatMap e.enc),[b]):=by
 have hl:((m.flatMap e.enc).map PV.t).length=m.length*e.z:=by rw[List.length_map,A1i]
 subst hz;rw[toT,h,A1b];simp only[hl,Nat.zero_add,List.drop_zero];rw[if_pos (Nat.mul_le_mul_right _ hn),<-List.map_take,allT_map_t,B0p];rfl
def prpT (d:Dv):T:=A1g ePr (prp d)
theorem C0z (d:Dv):IsS ePr (prpT d) (prp d):=IsS.tree _ _
theorem E0k {c:List T} {d:Dv} (h:Abs.IsD d c) (hn:nodD d<=10000):A0w Tryz.prog (G q) 68 [.ag c] (· = prpT d):=by
 have hcl:=B8q d;have hC:=F8q (q:=q) _ d (Nat.le_refl _);have hprp:=F8e d;have hS:=C0z d
 obtain⟨P,hP⟩:∃P,P=colP d:=⟨_,rfl⟩
 have hpe:P=[]->prpT d=nilS:=fun e=>by
  have:prp d=[]:=by rw[<-hprp,<-hP,e];simp[srtP,dedP]
  rw[prpT,this];rfl
 have hpn:P≠[]->prpT d=slT ePr (dedP (srtP P)):=fun e=>by
  rw[hP,hprp,prpT]
  cases hd:prp d with
  | nil=>
   exfalso
   cases P with
   | nil=>exact e rfl
   | cons x r=>
    have:x∈prp d:=C8p.2 (by rw[<-hP];exact List.mem_cons_self);rw[hd]at this;cases this
  | cons x r=>rfl
 cases d with
 | mk k nm f t ks=>
 have h0:=h;obtain⟨tk,rfl,hk⟩:=h.parts;have cd:=A3o k nm f t tk
 obtain⟨H1,hH1⟩:∃H1:Heap,H1=[(0,.cells 26 [.t (iv k),.t (sv nm),.t (iv f),.t (iv t),.t tk])]:=⟨_,rfl⟩
 have ld:A0g true 5 H1 (.ptr 0 0)=some (.t (.ag [iv k,sv nm,iv f,iv t,tk])):=by rw[hH1];rfl
 have hfr:∀b x,Abs.look H1 b=some x->b<1:=fun b x hb=>by
  rw[hH1]at hb;simp only[look_cons,look_nil]at hb;split at hb
  ·omega
  ·cases hb
 have ok0:=E6h hC h0 (H:=H1) (nx:=1) (g:=0) (l:=[]) (.inl rfl) (by omega) (by simp only[List.length_nil];omega);rw[List.nil_append,<-hP,if_pos rfl]at ok0
 obtain⟨H2,hH2⟩:∃H2,H2=rowH ePr 59 1 P++H1:=⟨_,rfl⟩
 rw[<-hH2]at ok0
 have r2:A0p ePr 59 H2 1 P:=by rw[hH2];exact A0p.head _ _ _ _ _
 have hf2:∀b x,Abs.look H2 b=some x->b<2:=by
  have:=C0y (e':=ePr) (ty':=59) (m:=P) (g:=0) (p:=True) hfr;rw[if_pos trivial,<-hH2]at this;exact this
 obtain⟨t1,e1,ok1⟩:∃t1,t1 [.t nilS,.t (.ag [iv k,sv nm,iv f,iv t,tk])] H1 1=some (rowP ePr 1 P,H2,2)/\HOK Tryz.prog (G q) 116 t1:=⟨_,A3b _ _ _ _,ok0⟩
 have c2:=B4t (q:=q) (nx:=2) r2 (by rw[hP];omega)
 by_cases hPe:P=[]
 ·have h3:=B7k (q:=q) (nx:=2) r2 (by rw[hP];omega);rw[hpe hPe];subst hPe;simp only[List.isEmpty_nil,if_true]at c2 h3
  obtain⟨t2,e2,ok2⟩:∃t2,t2 [.t nilS,.t (fv 115)] H2 2=some (.t (.tu []),H2,2)/\HOK Tryz.prog (G q) 117 t2:=⟨_,A3b _ _ _ _,A3h c2 (fun hf=>hf)⟩
  obtain⟨t3,e3,ok3⟩:∃t3,t3 [.t nilS] H2 2=some (.t nilS,H2,2)/\HOK Tryz.prog (G q) 118 t3:=⟨_,A3b _ _ _ _,A3h h3 (fun hf=>hf)⟩
  have C:Ctx Tryz.prog (G q) _:=A0y.nil.ctxH (A2s.cons ok1 (.cons ok2 (.cons ok3 .nil))) mixed;refine B7b.runs C rfl ?_;simp -implicitDefEqProofs [B0u,cd,<-hH1,ld,show rowP ePr 1 ([]:List Pr) = .t nilS from rfl,e1,e2,e3]
 ·have hPie:P.isEmpty=false:=by
   cases P with
   | nil=>exact absurd rfl hPe
   | cons _ _=>rfl
  have look2:=r2.resolve_left hPe;have hlen:=B8o P;have look3:=A2m (y:=A1b ePr 59 (srtP P)) look2;rw[hPie]at c2;simp only[Bool.false_eq_true,if_false]at c2
  obtain⟨H3,hH3⟩:∃H3,H3=upd H2 1 (A1b ePr 59 (srtP P)):=⟨_,rfl⟩
  rw[<-hH3]at c2 look3;have h3:=B7k (q:=q) (nx:=2) (H:=H3) (g:=1) (l:=srtP P) (.inr look3) (by rw[hlen,hP];omega)
  have hPie2:(srtP P).isEmpty=false:=by
   cases hs:srtP P with
   | nil=>rw[hs]at hlen;exact absurd (List.eq_nil_of_length_eq_zero hlen.symm) hPe
   | cons _ _=>rfl
  rw[hPie2,C6p ePr 1 hlen]at h3;simp only[Bool.false_eq_true,if_false]at h3
  obtain⟨H4,hH4⟩:∃H4,H4=upd H3 1 (A1b ePr 59 (cmpR (srtP P))):=⟨_,rfl⟩
  have look4:Abs.look H4 1=some (A1b ePr 59 (cmpR (srtP P))):=by rw[hH4];exact A2m look3
  rw[<-hH4]at h3
  have fu:∀{H:Heap} {y:Row} (hf:∀b x,Abs.look H b=some x->b<2) b x,Abs.look (upd H 1 y) b=some x->b<2:=fun hf b x hb=>by
   rw[A1h]at hb;split at hb
   ·omega
   ·exact hf b x hb
  obtain⟨t2,e2,ok2⟩:∃t2,t2 [rowP ePr 1 P,.t (fv 115)] H2 2=some (.t (.tu []),H3,2)/\HOK Tryz.prog (G q) 117 t2:=⟨_,A3b _ _ _ _,A3h c2 (fun hf=>by rw[hH3];exact fu hf)⟩
  obtain⟨t3,e3,ok3⟩:∃t3,t3 [rowP ePr 1 P] H3 2=some (.row 1 0 (dedP (srtP P)).length 4,H4,2)/\HOK Tryz.prog (G q) 118 t3:=⟨_,A3b _ _ _ _,A3h h3 (fun hf=>by rw[hH4];exact fu hf)⟩
  have C:Ctx Tryz.prog (G q) _:=A0y.nil.ctxH (A2s.cons ok1 (.cons ok2 (.cons ok3 .nil))) mixed;have tt:=F5j (n:=(dedP (srtP P)).length) look4 (show ePr.z=4 from rfl) (by rw[F1b];exact C6o _)
  have hres:(.sl (dedP (srtP P)).length (((cmpR (srtP P)).take (dedP (srtP P)).length).flatMap ePr.enc):T)=prpT (.mk k nm f t ks):=by
   rw[hpn hPe,cmpR,List.take_left];rfl
  rw[hres]at tt;refine B7b.runs C rfl ?_;simp -implicitDefEqProofs [B0u,cd,<-hH1,ld,e1,e2,e3,tt,-toT]
noncomputable def gPrp:List T->Option T:=g1 tD fun d=>if nodD d<=10000 then some (prpT d)else none
theorem hPrp:GOK Tryz.prog (G q) 68 gPrp:=A4c fun a d r ha hr=>by
 split at hr
 ·rename_i hn;injection hr with hr;subst hr;obtain⟨c,rfl,hc⟩:=ha;exact E0k hc hn
 ·cases hr
theorem E6j {c:List T} {d:Dv} (h:Abs.IsD d c) (hn:nodD d<=10000):gPrp [.ag c]=some (prpT d):=by
 show g1 _ _ _=_;rw[A5b (τ:=tD) (x:=d) ⟨c,rfl,h⟩,if_pos hn]
theorem E0l (a b:Pr):A0w Tryz.prog (G q) 115 [.ag (ePr.enc a),.ag (ePr.enc b)] (· = iv (ordP a b)):=by
 obtain⟨k,n,f,t⟩:=a;obtain⟨k',n',f',t'⟩:=b;have cd:=A5f ⟨k,n,f,t⟩;have cd':=A5f ⟨k',n',f',t'⟩;have ts:∀a b c d,A9a 3 1 [.int .i64 0] 4 [(0,.t (iv a)),(1,.t (iv b)),(2,.t (iv c)),(3,.t (iv d))]=some (.t (.sl 4 [iv a,iv b,iv c,iv d])):=fun _ _ _ _=>rfl
 have eo:∀a b c d,gOr [.sl 4 [iv a,iv b,iv c,iv d]]=some (iv (A3k a (A3k b (A3k c d)))):=fun a b c d=>by
  rw[<-E6d];exact F2f (l:=[a,b,c,d]) (.inr rfl) (by simp)
 refine C9g.runs ((A0y.cons (F6z (q:=q)) (.cons (F7a (q:=q)) (.cons (hOr (q:=q)) .nil))).ctx mixed) rfl ?_;simp -implicitDefEqProofs [B7c,cd,cd',A0g,D5t,D5u,ts,eo];rfl
noncomputable def gOrd:List T->Option T:=g2 (tAg ePr) (tAg ePr) fun a b=>some (iv (ordP a b))
theorem hOrd:GOK Tryz.prog (G q) 115 gOrd:=A4e fun a b x y r ha hb hr=>by
 obtain rfl:a = .ag (ePr.enc x):=ha;obtain rfl:b = .ag (ePr.enc y):=hb;injection hr with hr;subst hr;exact E0l x y
theorem F5k (a b:Pr):gOrd [.ag (ePr.enc a),.ag (ePr.enc b)]=some (iv (ordP a b)):=A4u (τ:=tAg ePr) (σ:=tAg ePr) rfl rfl
def SBs (p:Pr) (t:T) (F n:Nat) (a:Nat×Nat):A0b:=⟨[(10,.t (iv (a.2:Int))),(9,.t (iv (a.1:Int))),(8,.t (iv (n:Int))),(4,.ptr 0 0),(2,.t (fv F)),(0,.t t)],[(0,pRow p)],1,49⟩
theorem half (a b:Nat) (h:a+b<=9223372036854775807):IntKind.i64.wrap ((IntKind.u64.wrap (IntKind.i64.wrap ((a:Int)+b))).fdiv (2^(min (1:Int).toNat IntKind.u64.bits)))=(((a+b) / 2:Nat):Int):=by
 rw[A0h (z:=(a:Int)+b) (n:=a+b) (by omega) h,A6r (by omega) (by omega)]
 have:((a+b:Nat):Int).fdiv (2^(min (1:Int).toNat IntKind.u64.bits))=(((a+b) / 2:Nat):Int):=by
  show((a+b:Nat):Int).fdiv 2=_;rw[Int.fdiv_eq_ediv_of_nonneg _ (by omega)];omega
 rw[this,A0h rfl (by omega)]
theorem F5l {t:T} {l:List Pr} (p:Pr) (ht:IsS ePr t l) (hA:E5o (fun x=>ordP x p) l) (hl:l.length<=1000000) :
  A0w Tryz.prog (G q) 114 [t,.ag (ePr.enc p),fv 115] (· = .tu [iv (cntL (fun x=>ordP x p) l:Nat),bv (hitL (fun x=>ordP x p) l)]):=by
 have C:Ctx Tryz.prog (G q) _:=A0y.nil.ctxH (A2s.cons (hOrd (q:=q)).hok .nil) mixed;have cd:=A5f p;have hlen:=ht.len
 have eo:∀a b H nx,hOfT gOrd [.t (.ag (ePr.enc a)),.t (.ag (ePr.enc b))] H nx=some (.t (iv (ordP a b)),H,nx):=fun a b H nx=>by
  have:=F2g (F5k a b) H nx;exact this
 have hcle:=F5c (c:=fun x=>ordP x p) l;have hat:=C6h hA;refine A7z.call rfl ?_;unfold A4g
 obtain⟨N,hN⟩:∃N,N=cntL (fun x=>ordP x p) l:=⟨_,rfl⟩
 have hhit:hitL (fun x=>ordP x p) l=(match l[N]? with | some x=>decide (ordP x p=0) | none=>false):=by rw[hN,hitL];cases l[cntL (fun x=>ordP x p) l]?<;>rfl
 rw[<-hN]at hcle hat ⊢;have ld0:∀R:Heap,A0g true 4 ((0,pRow p)::R) (.ptr 0 0)=some (.t (.ag (ePr.enc p))):=fun _=>rfl;refine A0a C ?_;simp -implicitDefEqProofs [cd];refine A0a C ?_;simp -implicitDefEqProofs [hlen];refine A0a C ?_;simp -implicitDefEqProofs;refine A0o (fun a:Nat×Nat=>SBs p t 115 l.length (N,N)) (fun _=>True) (fun _=>rfl) ?_ ?_
 ·refine A0f ?_;refine A0k (SBs p t 115 l.length) (fun a=>a.2-a.1) (fun a=>a.1<=N/\N<=a.2/\a.2<=l.length) (0,l.length) (fun _=>rfl) ⟨Nat.zero_le _,hcle,Nat.le_refl _⟩ ?_ rfl ?_
  ·refine A0d ?_;simp -implicitDefEqProofs [SBs]
  rintro⟨i,j⟩ ⟨hi,hj,hjl⟩;simp only at hi hj hjl;by_cases hlt:i<j
  ·obtain⟨m,hm⟩:∃m,m=(i+j) / 2:=⟨_,rfl⟩
   have hw:=half i j (by omega);rw[<-hm]at hw;have hw:IntKind.i64.wrap ((IntKind.u64.wrap (IntKind.i64.wrap ((i:Int)+(j:Int)))).fdiv 2)=(m:Int):=hw
   obtain⟨x,hx⟩:∃x,l[m]?=some x:=⟨_,List.getElem?_eq_getElem (by omega)⟩
   obtain⟨pp,i1,ld⟩:=E5p ht hx;have e1:IntKind.i64.wrap ((m:Int)+1)=((m+1:Nat):Int):=A0h (by omega) (by omega);have hcx:=hat m x hx;refine A0c C ?_;by_cases hc:ordP x p<0
   ·have h1:=hcx.1 hc;simp -implicitDefEqProofs [SBs,hlt,hw,i1,ld,ld0,eo,hc,e1];exact Abs.Next.mk (m+1,j) ⟨⟨by show m+1<=N;omega,hj,hjl⟩,by show j-(m+1)<j-i;omega⟩ (A0d (by simp -implicitDefEqProofs [SBs]))
   ·have h1:¬m<N:=fun h=>hc (hcx.2 h);simp -implicitDefEqProofs [SBs,hlt,hw,i1,ld,ld0,eo,hc];exact Abs.Next.mk (i,m) ⟨⟨hi,by show N<=m;omega,by show m<=_;omega⟩,by show m-i<j-i;omega⟩ (A0d (by simp -implicitDefEqProofs [SBs]))
  ·have e1:i=N:=by omega
   have e2:j=N:=by omega
   subst e1;subst e2;refine A0c C ?_;simp -implicitDefEqProofs [SBs];exact Abs.Next.mk (0,0) trivial (A0d (by simp -implicitDefEqProofs [SBs]))
 ·rintro _ -;rw[hhit];by_cases hlt:N<l.length
  ·obtain⟨x,hx⟩:∃x,l[N]?=some x:=⟨_,List.getElem?_eq_getElem hlt⟩
   obtain⟨pp,i1,ld⟩:=E5p ht hx;rw[hx];refine A0c C ?_;simp -implicitDefEqProofs [SBs,hlt,i1,ld,ld0,eo];rfl
  ·rw[List.getElem?_eq_none (by omega)];refine A0c C ?_;simp -implicitDefEqProofs [SBs,hlt]
noncomputable def gBs:List T->Option T
 | [a,b,.v (.func (.func F) ⟨[]⟩ ⟨[]⟩)]=>open Classical in if F=115 then g2 (tSl ePr) (tAg ePr) (fun l p=>if E5o (fun x=>ordP x p) l/\l.length<=1000000 then some (.tu [iv (cntL (fun x=>ordP x p) l:Nat),bv (hitL (fun x=>ordP x p) l)])else none) [a,b]else none
 | _=>none
theorem hBs:GOK Tryz.prog (G q) 114 gBs:=fun args r h=>by
 unfold gBs at h;split at h
 ·rename_i a b F;split at h
  ·rename_i hF;subst hF;unfold g2 at h;obtain⟨l,h1,h⟩:=Option.bind_eq_some_iff.1 h;obtain⟨p,h2,h⟩:=Option.bind_eq_some_iff.1 h;simp only at h;split at h
   ·rename_i hA;injection h with h;subst h;obtain rfl:b = .ag (ePr.enc p):=Ty.is_dec h2;exact F5l p (Ty.is_dec h1) hA.1 hA.2
   ·cases h
  ·cases h
 ·cases h
theorem F8r {t:T} {l:List Pr} (p:Pr) (ht:IsS ePr t l) (hA:AscP l) (hl:l.length<=1000000):∃n:Nat,gBs [t,.ag (ePr.enc p),fv 115]=some (.tu [iv (n:Int),bv (decide (p∈l))]):=by
 refine⟨cntL (fun x=>ordP x p) l,?_⟩
 have e:gBs [t,.ag (ePr.enc p),fv 115]=g2 (tSl ePr) (tAg ePr) (fun l p=>open Classical in if E5o (fun x=>ordP x p) l/\l.length<=1000000 then some (.tu [iv (cntL (fun x=>ordP x p) l:Nat),bv (hitL (fun x=>ordP x p) l)])else none) [t,.ag (ePr.enc p)]:=by
  unfold gBs;simp
 rw[e,A4u (τ:=tSl ePr) (σ:=tAg ePr) ht rfl,if_pos ⟨D0f hA p,hl⟩,F5d hA p]
noncomputable def gHas:List T->Option T:=g2 (tSl ePr) (tAg ePr) fun l p=>open Classical in if AscP l/\l.length<=1000000 then some (bv (decide (p∈l)))else none
theorem hHas:GOK Tryz.prog (G q) 67 gHas:=A4e fun a b l p r ha hb hr=>by
 obtain rfl:b = .ag (ePr.enc p):=hb;split at hr
 ·rename_i h;injection hr with hr;subst hr;obtain⟨n,hn⟩:=F8r p ha h.1 h.2;have cp:=A5f p;have lp:A0g true 4 [(0,pRow p)] (.ptr 0 0)=some (.t (.ag (ePr.enc p))):=rfl;have e:∀H nx,hOfT gBs [.t a,.t (.ag (ePr.enc p)),.t (fv 115)] H nx=some (.t (.tu [iv (n:Int),bv (decide (p∈l))]),H,nx):=fun H nx=>F2h hn H nx;refine D9e.runs (A0y.nil.ctxH (A2s.cons (hBs (q:=q)).hok .nil) mixed) rfl ?_;simp -implicitDefEqProofs [C3i,cp,lp,e]
 ·cases hr
theorem E6k {t:T} {l:List Pr} (p:Pr) (ht:IsS ePr t l) (hA:AscP l) (hl:l.length<=1000000):gHas [t,.ag (ePr.enc p)]=some (bv (decide (p∈l))):=by
 show g2 _ _ _ _=_;rw[A4u (τ:=tSl ePr) (σ:=tAg ePr) ht rfl,if_pos ⟨hA,hl⟩]
def outA (l:List Dv) (i:Nat):List T:=(l.take i).map prpT++List.replicate (l.length-i) nilS
theorem F1i {l:List Dv} {i:Nat} (h:i<=l.length):(outA l i).length=l.length:=by
 simp[outA];omega
theorem F1j {l:List Dv} {i:Nat} {x:Dv} (h:l[i]?=some x):(outA l i).set i (prpT x)=outA l (i+1):=by
 have hlt:=(List.getElem?_eq_some_iff.1 h).1;unfold outA;rw[List.set_append_right _ _ (by rw[List.length_map,List.length_take];omega),List.take_add_one,h,Option.toList_some,List.map_append,List.append_assoc];congr 1;rw[List.length_map,List.length_take,Nat.min_eq_left (by omega),Nat.sub_self]
 obtain⟨m,hm⟩:∃m,l.length-i=m+1:=⟨l.length-i-1,by omega⟩
 rw[hm,show l.length-(i+1)=m by omega];rfl
theorem E6l (n:Nat):B7o [Value.slice none 0 0] n=(List.replicate n nilS).map .t:=by
 apply List.ext_getElem?;intro j;by_cases hj:j<n
 ·have hl:j<(B7o [Value.slice none 0 0] n).length:=by rw[A4q];simpa using hj
  obtain⟨_,h2⟩:=C4p (List.getElem?_eq_getElem hl);rw[List.getElem?_eq_getElem hl,h2];simp[hj,Nat.mod_one]
 ·rw[List.getElem?_eq_none (by rw[A4q];simp;omega),List.getElem?_eq_none (by simp;omega)]
theorem F1k {n nx:Nat} (h:n<=1000000):C7z 88 1 24 [.slice none 0 0] (.t (iv (n:Int))) (.t (iv (n:Int))) nx=some (.row nx 0 n 1,.cells 88 ((List.replicate n nilS).map .t)):=by
 simp only[C7z,Int.toNat_natCast];rw[if_pos (by omega),E6l]
theorem E6m {H:Heap} {ty b i:Nat} {cs:List T} (x:T) (h:Abs.look H b=some (.cells ty (cs.map .t))) (hi:i<cs.length) (hx:A1m (.t x)=some [.t x]):A0t 1 H (.ptr b i) (.t x)=some (upd H b (.cells ty ((cs.set i x).map .t))):=by
 simp only[A0t,hx,h,List.length_singleton,List.length_map];rw[if_pos ⟨trivial,by omega⟩,A4y,List.map_set]
theorem C4e {α:Type} (e:Enc α) (l:List α):A1m (.t (A1g e l))=some [.t (A1g e l)]:=by cases l<;>rfl
def SAl (t:T) (l:List Dv) (i:Nat):A0b:=⟨[(11,.t (iv (i:Int))),(10,.t (iv (l.length:Int))),(9,.t t),(3,.row 0 0 l.length 1)],[(0,.cells 88 ((outA l i).map .t))],1,23⟩
def B1e (l:List Dv):T:=slT eRaw (l.map prpT)
theorem F1l (l:List T):l.flatMap eRaw.enc=l:=by
 induction l with
 | nil=>rfl
 | cons x r ih=>rw[List.flatMap_cons,ih];rfl
theorem F1m {t:T} {l:List Dv} (ht:IsK t l) (hs:SmK l):A0w Tryz.prog (G q) 64 [t] (· = B1e l):=by
 have C:Ctx Tryz.prog (G q) _:=(A0y.cons (hPrp (q:=q)) .nil).ctx mixed;have l1:=ht.len;have hl:=hs.len;have mk:=F1k (n:=l.length) (nx:=0) (by omega);refine D9c.call rfl ?_;unfold C3h;refine A0a C ?_;simp -implicitDefEqProofs;refine A0a C ?_;simp -implicitDefEqProofs [l1,mk];refine A0o (α:=Unit) (fun _=>SAl t l l.length) (fun _=>True) (fun _=>rfl) ?_ ?_
 ·refine A0a C ?_;simp -implicitDefEqProofs [l1];refine A0f ?_;refine C8i (SAl t l) l.length (fun _=>rfl) ?_ rfl ?_ ?_
  ·have:outA l 0=List.replicate l.length nilS:=by simp[outA]
   unfold SAl;rw[this,List.map_replicate];refine A0d ?_;simp -implicitDefEqProofs
  ·intro i hi
   obtain⟨x,hx⟩:∃x,l[i]?=some x:=⟨_,List.getElem?_eq_getElem hi⟩
   obtain⟨pp,cx,i1,ld,hcx⟩:=A5d ht hx;have hxn:=hs.kid (List.mem_of_getElem? hx);have e1:IntKind.i64.wrap ((i:Int)+1)=((i+1:Nat):Int):=A0h (by omega) (by omega);have eP:=E6j hcx (by omega)
   obtain⟨H0,hH0⟩:∃H0:Heap,H0=[(0,.cells 88 ((outA l i).map .t))]:=⟨_,rfl⟩
   have st5:A0t 5 (zD5 1::H0) (.ptr 1 0) (.t (.ag cx))=some ((1,.cells 26 (cx.map .t))::H0):=A7d 1 H0 x hcx
   obtain⟨H1,hH1⟩:∃H1:Heap,H1=(1,.cells 26 (cx.map .t))::H0:=⟨_,rfl⟩
   have ldd:A0g true 5 H1 (.ptr 1 0)=some (.t (.ag cx)):=by rw[hH1];exact A9i 1 H0 x hcx
   rw[<-hH1]at st5
   have lk0:Abs.look H1 0=some (.cells 88 ((outA l i).map .t)):=by rw[hH1,hH0];rfl
   have st:=E6m (prpT x) lk0 (by rw[F1i (by omega)];exact hi) (C4e _ _);rw[F1j hx]at st
   have i2:A1o 1 (.row 0 0 l.length 1) (.t (iv (i:Int)))=some (.ptr 0 i):=by
    simp only[A1o,Int.toNat_natCast];rw[if_pos (by omega)];congr 2;omega
   unfold SAl;rw[<-hH0];refine A0c C ?_;simp -implicitDefEqProofs [hi,i1,ld,st5,ldd,eP,i2,st,e1];refine B0z (by omega) (fun x hx=>?_) ?_
   ·simp only[List.mem_singleton]at hx;subst hx;exact⟨A2m lk0,by show 0<1;omega,A2f _ _⟩
   ·simp -implicitDefEqProofs [under]
  ·refine A0c C ?_;simp -implicitDefEqProofs [SAl];exact Abs.Next.mk () trivial (A0d (by simp -implicitDefEqProofs [SAl]))
 ·rintro _ -
  have e:outA l l.length=l.map prpT:=by simp[outA]
  have tt:=A7r (e:=eRaw) (ty:=88) (b:=0) (l:=l.map prpT) (H:=[(0,.cells 88 ((l.map prpT).map .t))]) (by rw[A1b,F1l];rfl);have tt:toT [(0,.cells 88 ((l.map prpT).map .t))] (.row 0 0 (l.map prpT).length 1)=some (B1e l,[0]):=tt;rw[List.length_map]at tt;unfold SAl;rw[e];refine A0c C ?_;simp -implicitDefEqProofs [tt,-toT,-List.map_map]
noncomputable def gAll:List T->Option T:=g1 tK fun l=>open Classical in if SmK l then some (B1e l)else none
theorem hAll:GOK Tryz.prog (G q) 64 gAll:=A4c fun a x r ha hr=>by
 split at hr
 ·rename_i h;injection hr with hr;subst hr;exact F1m ha h
 ·cases hr
theorem E6n {t:T} {l:List Dv} (ht:IsK t l) (hs:SmK l):gAll [t]=some (B1e l):=by
 show g1 _ _ _=_;rw[A5b (τ:=tK) ht,if_pos hs]
noncomputable def hSet {α:Type} (mk:α->List PV) (p:α->T) (l:List α) (H0:Heap) (nx0:Nat) (ps:List PV) (H:Heap) (nx:Nat):Option (PV×Heap×Nat):=
 open Classical in if h : (∃ x ∈ l, ps = mk x) /\ H = H0 /\ nx = nx0 then some (.t (p h.1.choose), H0, nx0) else none
theorem F5m {P:Program} {G:A0u} {α:Type} {f:FuncId} {mk:α->List PV} {p:α->T} {l:List α} {H0:Heap} {nx0:Nat} (h:∀x∈l,A2g P G f (mk x) H0 nx0 (.t (p x)) H0 nx0):HOK P G f (hSet mk p l H0 nx0) where
 call:=fun ps H nx r H' nx' hr=>by
  unfold hSet at hr;split at hr
  ·rename_i hc;injection hr with hr;injection hr with h1 h2;injection h2 with h2 h3;subst h1;subst h2;subst h3;obtain⟨h4,rfl,rfl⟩:=hc;have hs:=h4.choose_spec;have:=h _ hs.1;rw[<-hs.2]at this;exact this
  ·cases hr
 fresh:=fun ps H nx r H' nx' hr hf=>by
  unfold hSet at hr;split at hr
  ·rename_i hc;injection hr with hr;injection hr with h1 h2;injection h2 with h2 h3;subst h2;subst h3;obtain⟨_,rfl,rfl⟩:=hc;exact hf
  ·cases hr
theorem F5n {α:Type} {mk:α->List PV} {p:α->T} {l:List α} (hinj:∀x y,mk x=mk y->x=y) (H:Heap) (nx:Nat) {x:α} (hx:x∈l):hSet mk p l H nx (mk x) H nx=some (.t (p x),H,nx):=by
 unfold hSet
 have hc:(∃y∈l,mk x=mk y)/\H=H/\nx=nx:=⟨⟨x,hx,rfl⟩,rfl,rfl⟩
 rw[dif_pos hc];have:=hinj _ _ hc.1.choose_spec.2;rw[<-this]
def idxI {α:Type} (p:α->Bool) (l:List α):Int:=if l.findIdx p<l.length then(l.findIdx p:Int)else -1
theorem F1n {α:Type} (p:α->Bool) (l:List α):decide (0<=idxI p l)=l.any p:=by
 unfold idxI;by_cases h:l.findIdx p<l.length
 ·rw[if_pos h];obtain⟨x,hx,hp⟩:=A9f h;have:l.any p=true:=List.any_eq_true.2 ⟨x,List.mem_of_getElem? hx,hp⟩;rw[this];simp
 ·rw[if_neg h]
  have:l.any p=false:=by
   rw[List.any_eq_false];intro x hx;have:=B6s (p:=p) (l:=l) (by have:=C2z p l;omega) x hx;simp[this]
  rw[this];rfl
def SIx (td:T) (fn:PV) (n:Nat) (H:Heap) (nx:Nat) (j:Nat):A0b:=⟨[(8,.t (iv (j:Int))),(7,.t (iv (n:Int))),(1,fn),(0,.t td)],H,nx,19⟩
theorem E6o {first cap:List PV}:∀x y:Dc,first++[PV.t (.ag (eDc.enc x))]++cap=first++[PV.t (.ag (eDc.enc y))]++cap->x=y:=fun x y h=>by
 have h:=List.append_cancel_left (List.append_cancel_right h);injection h with h _;injection h with h;injection h with h;exact eDc.inj x y h
theorem E0m {F:Nat} {first cap:List PV} {td:T} {l:List Dc} {p:Dc->Bool} {H:Heap} {nx:Nat} (ht:IsS eDc td l) (hl:l.length<=1000000)
  (hp:∀x∈l,A2g Tryz.prog (G q) F (first++[PV.t (.ag (eDc.enc x))]++cap) H nx (.t (bv (p x))) H nx) :
  A2g Tryz.prog (G q) 160 [.t td,.fn (.func F) first cap] H nx (.t (iv (idxI p l))) H nx:=by
 have hS:=F5m (p:=fun x=>bv (p x)) hp;have eS:∀x∈l,hSet (fun x=>first++[PV.t (.ag (eDc.enc x))]++cap) (fun x=>bv (p x)) l H nx (first++[PV.t (.ag (eDc.enc x))]++cap) H nx=some (.t (bv (p x)),H,nx):=fun x hx=>F5n (mk:=fun x=>first++[PV.t (.ag (eDc.enc x))]++cap) E6o H nx hx;have hS:HOK Tryz.prog (G q) F (hSet (fun x=>first++[PV.t (.ag (eDc.enc x))]++cap) (fun x=>bv (p x)) l H nx):=hS
 obtain⟨tb,htb⟩:∃tb,tb=hSet (fun x=>first++[PV.t (.ag (eDc.enc x))]++cap) (fun x=>bv (p x)) l H nx:=⟨_,rfl⟩
 rw[<-htb]at hS eS;have C:Ctx Tryz.prog (G q) _:=A0y.nil.ctxH (A2s.cons hS .nil) mixed;have hlen:=ht.len;refine B4n.callP rfl ?_;unfold A7p
 obtain⟨R,hR⟩:∃R,R=idxI p l:=⟨_,rfl⟩
 rw[<-hR];refine A0a C ?_;simp -implicitDefEqProofs;refine A0o (α:=Unit) (fun _=>⟨[],H,nx,19⟩) (fun _=>R = -1) (fun _=>rfl) ?_ ?_
 ·refine A0a C ?_;simp -implicitDefEqProofs [hlen];refine A0f ?_;refine A0k (SIx td (.fn (.func F) first cap) l.length H nx) (fun j=>l.length-j) (fun j=>j<=l.length/\j<=l.findIdx p) 0 (fun _=>rfl) ⟨Nat.zero_le _,Nat.zero_le _⟩ ?_ rfl ?_
  ·refine A0d ?_;simp -implicitDefEqProofs [SIx]
  rintro j ⟨hj,hjf⟩;by_cases hlt:j<l.length
  ·obtain⟨x,hx⟩:∃x,l[j]?=some x:=⟨_,List.getElem?_eq_getElem hlt⟩
   obtain⟨pp,i1,ld,_,_⟩:=B7u ht hx;have hm:=List.mem_of_getElem? hx;have es:=eS x hm;have e1:IntKind.i64.wrap ((j:Int)+1)=((j+1:Nat):Int):=A0h (by omega) (by omega)
   have es':tb (first++PV.t (.ag (eDc.enc x))::cap) H nx=some (.t (bv (p x)),H,nx):=by
    have:first++PV.t (.ag (eDc.enc x))::cap=first++[PV.t (.ag (eDc.enc x))]++cap:=by simp
    rw[this];exact es
   refine A0c C ?_
   cases hpx:p x with
   | true=>
    have hr:R=(j:Int):=by
     have:l.findIdx p=j:=by
      have h1:¬j<l.findIdx p:=fun h=>by
       have:=B2t h hx;rw[hpx]at this;cases this
      omega
     rw[hR,idxI,this,if_pos hlt]
    rw[hpx]at es';simp -implicitDefEqProofs [SIx,hlt,i1,ld,es',hr];exact⟨.inr rfl,_,_,Sub.refl _,rfl,rfl,rfl,rfl⟩
   | false=>
    have hne:j≠l.findIdx p:=fun e=>by
     obtain⟨y,hy,hpy⟩:=A9f (p:=p) (l:=l) (by omega);rw[<-e,hx]at hy;injection hy with hy;subst hy;rw[hpx]at hpy;cases hpy
    rw[hpx]at es';simp -implicitDefEqProofs [SIx,hlt,i1,ld,es',e1];exact Abs.Next.mk (j+1) ⟨⟨by omega,by omega⟩,by omega⟩ (A0d (by simp -implicitDefEqProofs [SIx]))
  ·have hr:R = -1:=by rw[hR,idxI,if_neg (by omega)]
   refine A0c C ?_;simp -implicitDefEqProofs [SIx,hlt];exact Abs.Next.mk () hr (A0d (by simp -implicitDefEqProofs))
 ·rintro _ hr;refine A0c C ?_;simp -implicitDefEqProofs [hr];exact⟨.inr rfl,_,_,Sub.refl _,rfl,rfl,rfl,rfl⟩
theorem B4u {F:Nat} {first cap:List PV} {td:T} {l:List Dc} {p:Dc->Bool} {H:Heap} {nx:Nat} (ht:IsS eDc td l) (hl:l.length<=1000000)
  (hp:∀x∈l,A2g Tryz.prog (G q) F (first++[PV.t (.ag (eDc.enc x))]++cap) H nx (.t (bv (p x))) H nx) :
  A2g Tryz.prog (G q) 112 [.t td,.fn (.func F) first cap] H nx (.t (bv (l.any p))) H nx:=by
 obtain⟨t1,e1,ok1⟩:∃t1,t1 [.t td,.fn (.func F) first cap] H nx=some (.t (iv (idxI p l)),H,nx)/\HOK Tryz.prog (G q) 160 t1:=⟨_,A3b _ _ _ _,A3h (E0m ht hl hp) (fun hf=>hf)⟩
 have C:Ctx Tryz.prog (G q) _:=A0y.nil.ctxH (A2s.cons ok1 .nil) mixed;refine B0w.callP rfl ?_;unfold A5z;refine A0c C ?_;have ha:=F1n p l;simp -implicitDefEqProofs [e1];exact⟨.inr rfl,_,_,Sub.refl _,rfl,by rw[<-ha];rfl,rfl,rfl⟩
def A9u:A0i:=(jO [jM 1 (.box 39) [jT 0],jM 2 .mv [jI 0]] (.seq (jO [jM 6 (.faddr 0) [jT 1],jM 7 jL [jT 6],jM 8 (.call 58) [jT 7],jM 9 (.un .not) [jT 8]] (.cond (jT 9) (jO [jM 2 .mv [jI 1]] .ret) .skip)) (.seq (jO [jM 10 (.faddr 1) [jT 1],jM 11 jL [jT 10],jM 12 .lensl [jT 11],jM 13 (jB .gtr) [jT 12,(jI 256)]] (.cond (jT 13) (jO [jM 2 .mv [jI 7]] .ret) .skip)) (.seq (jO [jM 14 (.faddr 1) [jT 1],jM 15 jL [jT 14],jM 16 .lensl [jT 15],jM 17 .mv [jI 0]] (.block 0 (.loop (jO [jM 18 (jB .lss) [jT 17,jT 16]] (.seq (.cond (jT 18) .skip (.exit 0)) (.seq (.block 1 (jO [jV 19 17,jM 20 (.iaddr 9) [jT 15,jT 17],jM 21 (.load true 9) [jT 20],jM 4 (.alloc 28 [(.string ⟨#[]⟩),(.slice none 0 0),(.int .i64 0),(.slice none 0 0),(.int .i64 0),(.string ⟨#[]⟩),(.int .i64 0),(.int .i64 0),(.slice none 0 0)]) [],jV 3 19,⟨none,.store 9,[jT 4,jT 21],none⟩] (.seq (jO [jM 22 (.faddr 0) [jT 4],jM 23 jL [jT 22],jM 24 (.call 58) [jT 23],jM 25 (.un .not) [jT 24]] (.cond (jT 25) (jO [jM 2 .mv [jI 1]] .ret) .skip)) (.seq (.seq (.draw [jV 26 3,jM 27 (jB .gtr) [jT 26,(jI 0)],jV 28 27,jG 29 (.faddr 0) [jT 4] 28 true,jG 30 jL [jT 29] 28 true,jG 31 (.faddr 1) [jT 1] 28 true,jG 32 jL [jT 31] 28 true,jX 33 3 28 true,jG 34 (jB .sub) [jT 33,(jI 1)] 28 true,jG 35 (.iaddr 9) [jT 32,jT 34] 28 true,jG 36 (.faddr 0) [jT 35] 28 true,jG 37 jL [jT 36] 28 true,jG 38 (jB .leq) [jT 30,jT 37] 28 true,jM 39 .pick [jT 28,jT 38,jF]]) (.cond (jT 39) (jO [jM 2 .mv [jI 3]] .ret) .skip)) (jO [jM 40 (.load true 9) [jT 4],jM 41 (.call 69) [jT 40],jV 5 41] (jO [jV 42 5,jM 43 (jB .neq) [jT 42,(jI 0)]] (.cond (jT 43) (jO [jV 44 5,jV 2 44] .ret) .skip))))))) (.ops [jM 45 (jB .add) [jT 17,(jI 1)],jV 17 45]))))))) (jO [jM 2 .mv [jI 0]] .ret)))))
theorem B7w {q:Gl}:FnOK Tryz.prog (G q) 37 1 46 A9u [(.tmp 2)]:=⟨Tryz.f37,Tryz.func37,by kernel_rfl,by kernel_rfl,by kernel_rfl,by kernel_rfl⟩
def B1f:A0i:=(jO [jM 1 (.box 28) [jT 0],jM 2 .mv [jI 0]] (.seq (jO [jM 7 (.faddr 1) [jT 1],jM 8 jL [jT 7],jM 9 (.call 119) [jT 8],jV 3 9] (jO [jV 10 3,jM 11 (jB .neq) [jT 10,(jI 0)]] (.cond (jT 11) (jO [jV 12 3,jV 2 12] .ret) .skip))) (.seq (jO [jM 13 (.faddr 2) [jT 1],jM 14 jL [jT 13],jM 15 (jB .lss) [jT 14,(jI 0)],jV 16 15,jG 17 (.faddr 2) [jT 1] 16 false,jG 18 jL [jT 17] 16 false,jG 19 (jB .gtr) [jT 18,(jI 2)] 16 false,jM 20 .pick [jT 16,jW,jT 19]] (.cond (jT 20) (jO [jM 2 .mv [jI 14]] .ret) .skip)) (.seq (jO [jM 21 (.faddr 3) [jT 1],jM 22 jL [jT 21],jM 23 .lensl [jT 22],jM 24 (jB .gtr) [jT 23,(jI 256)]] (.cond (jT 24) (jO [jM 2 .mv [jI 7]] .ret) .skip)) (.seq (jO [jM 25 (.faddr 3) [jT 1],jM 26 jL [jT 25],jM 27 .lensl [jT 26],jM 28 .mv [jI 0]] (.block 0 (.loop (jO [jM 29 (jB .lss) [jT 28,jT 27]] (.seq (.cond (jT 29) .skip (.exit 0)) (.seq (.block 1 (jO [jV 30 28,jM 31 (.iaddr 5) [jT 26,jT 28],jM 32 (.load true 5) [jT 31],jM 5 (.alloc 61 [(.int .i64 0),(.string ⟨#[]⟩),(.int .i64 0),(.int .i64 0),(.bool false)]) [],jV 4 30,⟨none,.store 5,[jT 5,jT 32],none⟩] (.seq (jO [jM 33 (.faddr 0) [jT 5],jM 34 (.load true 4) [jT 33],jM 35 (.faddr 1) [jT 1],jM 36 jL [jT 35],jM 37 .lensl [jT 36],jM 38 (.call 120) [jT 34,jT 37],jV 6 38] (jO [jV 39 6,jM 40 (jB .neq) [jT 39,(jI 0)]] (.cond (jT 40) (jO [jV 41 6,jV 2 41] .ret) .skip))) (jO [jM 42 (.faddr 3) [jT 1],jM 43 jL [jT 42],jV 44 4,jM 45 (.slice 5 false true) [jT 43,jT 44],jM 46 (.ex (.mkf (.func 121) 0)) [jT 5],jM 47 (.hcall 112) [jT 45,jT 46]] (.cond (jT 47) (jO [jM 2 .mv [jI 4]] .ret) .skip))))) (.ops [jM 48 (jB .add) [jT 28,(jI 1)],jV 28 48]))))))) (.seq (.block 2 (jO [jM 50 (.faddr 2) [jT 1],jM 51 jL [jT 50],jM 52 (jB .eql) [jT 51,(jI 1)],jV 53 52,jG 54 (.faddr 4) [jT 1] 53 true,jG 55 (.faddr 2) [jT 54] 53 true,jG 56 jL [jT 55] 53 true,jG 57 (jB .neq) [jT 56,(jI 0)] 53 true,jX 58 57 53 true,jG 59 (.faddr 4) [jT 1] 58 false,jG 60 (.faddr 3) [jT 59] 58 false,jG 61 jL [jT 60] 58 false,jG 62 (.faddr 1) [jT 1] 58 false,jG 63 jL [jT 62] 58 false,jG 64 .lensl [jT 63] 58 false,jG 65 (jB .neq) [jT 61,jT 64] 58 false,jG 66 .pick [jT 58,jW,jT 65] 53 true,jM 67 .pick [jT 53,jT 66,jF],jV 49 67] (.cond (jT 49) (jO [jM 2 .mv [jI 2]] .ret) (jO [jM 69 (.faddr 2) [jT 1],jM 70 jL [jT 69],jM 71 (jB .eql) [jT 70,(jI 1)],jV 72 71,jG 73 (.faddr 4) [jT 1] 72 true,jG 74 (.load true 5) [jT 73] 72 true,jG 75 (.call 122) [jT 74] 72 true,jG 76 (.un .not) [jT 75] 72 true,jM 77 .pick [jT 72,jT 76,jF],jV 68 77] (.cond (jT 68) (jO [jM 2 .mv [jI 13]] .ret) (jO [jM 79 (.faddr 2) [jT 1],jM 80 jL [jT 79],jM 81 (jB .neq) [jT 80,(jI 1)],jV 82 81,jG 83 (.faddr 4) [jT 1] 82 true,jG 84 (.load true 5) [jT 83] 82 true,jG 85 (.build [(0,1),(1,1),(2,1),(3,1),(4,1)] [(.int .i64 0),(.string ⟨#[]⟩),(.int .i64 0),(.int .i64 0),(.slice none 0 0)] []) [] 82 true,jG 86 (.call 99) [jT 84,jT 85] 82 true,jG 87 (jB .neq) [jT 86,(jI 0)] 82 true,jM 88 .pick [jT 82,jT 87,jF],jV 78 88] (.cond (jT 78) (jO [jM 2 .mv [jI 13]] .ret) .skip))))))) (jO [jM 2 .mv [jI 0]] .ret)))))))
theorem C1a {q:Gl}:FnOK Tryz.prog (G q) 69 1 89 B1f [(.tmp 2)]:=⟨Tryz.f69,Tryz.func69,by kernel_rfl,by kernel_rfl,by kernel_rfl,by kernel_rfl⟩
def C1b:A0i:=(jO [jM 2 .mv [jI 0]] (.seq (jO [jV 4 0,jM 5 .lensl [jT 4],jM 6 (jB .eql) [jT 5,(jI 0)]] (.cond (jT 6) (jO [jM 2 .mv [jI 1]] .ret) .skip)) (.seq (jO [jV 7 0,jM 8 .lensl [jT 7],jM 9 (jB .gtr) [jT 8,(jI 32)]] (.cond (jT 9) (jO [jM 2 .mv [jI 7]] .ret) .skip)) (.seq (jO [jM 3 .mv [jI 0]] (.block 0 (.loop (.seq (jO [jV 10 3,jV 11 0,jM 12 .lensl [jT 11],jM 13 (jB .lss) [jT 10,jT 12]] (.cond (jT 13) .skip (.exit 0))) (.seq (.block 1 (jO [jV 16 0,jV 17 3,jM 18 (.iaddr 1) [jT 16,jT 17],jM 19 jL [jT 18],jM 20 (.call 159) [jT 19],jM 21 (.un .not) [jT 20]] (.cond (jT 21) (jO [jM 2 .mv [jI 1]] .ret) .skip))) (.ops [jV 14 3,jM 15 (jB .add) [jT 14,(jI 1)],jV 3 15])))))) (jO [jM 2 .mv [jI 0]] .ret)))))
theorem D3q {q:Gl}:FnOK Tryz.prog (G q) 108 1 22 C1b [(.tmp 2)]:=⟨Tryz.f108,Tryz.func108,by kernel_rfl,by kernel_rfl,by kernel_rfl,by kernel_rfl⟩
def B4v:A0i:=(jO [jM 2 .mv [jI 0]] (.seq (jO [jV 5 0,jM 6 .lensl [jT 5],jM 7 (jB .eql) [jT 6,(jI 0)]] (.cond (jT 7) (jO [jM 2 .mv [jI 1]] .ret) .skip)) (.seq (jO [jV 8 0,jM 9 .lensl [jT 8],jM 10 (jB .gtr) [jT 9,(jI 32)]] (.cond (jT 10) (jO [jM 2 .mv [jI 7]] .ret) .skip)) (.seq (jO [jV 11 0,jM 12 .lensl [jT 11],jM 13 .mv [jI 0]] (.block 0 (.loop (jO [jM 14 (jB .lss) [jT 13,jT 12]] (.seq (.cond (jT 14) .skip (.exit 0)) (.seq (.block 1 (jO [jM 15 (.iaddr 1) [jT 11,jT 13],jM 16 jL [jT 15],jV 4 16] (jO [jV 17 4,jM 18 (.call 164) [jT 17],jM 19 (.un .not) [jT 18]] (.cond (jT 19) (jO [jM 2 .mv [jI 1]] .ret) .skip)))) (.ops [jM 20 (jB .add) [jT 13,(jI 1)],jV 13 20]))))))) (jO [jM 2 .mv [jI 0]] .ret)))))
theorem C6q {q:Gl}:FnOK Tryz.prog (G q) 119 1 21 B4v [(.tmp 2)]:=⟨Tryz.f119,Tryz.func119,by kernel_rfl,by kernel_rfl,by kernel_rfl,by kernel_rfl⟩
def A0z:A0i:=(jO [jM 2 (.box 59) [jT 0],jM 4 .mv [jI 0]] (.seq (.block 0 (jO [jM 6 (.faddr 0) [jT 2],jM 7 jL [jT 6],jM 8 (jB .lss) [jT 7,(jI 0)],jV 9 8,jG 10 (.faddr 0) [jT 2] 9 false,jG 11 jL [jT 10] 9 false,jG 12 (jB .gtr) [jT 11,(jI 3)] 9 false,jM 13 .pick [jT 9,jW,jT 12],jV 5 13] (.cond (jT 5) (jO [jM 4 .mv [jI 14]] .ret) (jO [jM 15 (.faddr 0) [jT 2],jM 16 jL [jT 15],jM 17 (jB .eql) [jT 16,(jI 3)],jV 18 17,jG 19 (.faddr 1) [jT 2] 18 true,jG 20 jL [jT 19] 18 true,jG 21 (jB .neq) [jT 20,(.k (.t (.v (.string ⟨#[]⟩))))] 18 true,jM 22 .pick [jT 18,jT 21,jF],jV 23 22,jG 24 (.faddr 0) [jT 2] 23 false,jG 25 jL [jT 24] 23 false,jG 26 (jB .neq) [jT 25,(jI 3)] 23 false,jX 27 26 23 false,jG 28 (.faddr 1) [jT 2] 27 true,jG 29 jL [jT 28] 27 true,jG 30 (.call 58) [jT 29] 27 true,jG 31 (.un .not) [jT 30] 27 true,jG 32 .pick [jT 27,jT 31,jF] 23 false,jM 33 .pick [jT 23,jW,jT 32],jV 14 33] (.cond (jT 14) (jO [jM 4 .mv [jI 1]] .ret) (jO [jM 35 (.faddr 2) [jT 2],jM 36 jL [jT 35],jM 37 (jB .lss) [jT 36,(jI 0)],jV 38 37,jG 39 (.faddr 2) [jT 2] 38 false,jG 40 jL [jT 39] 38 false,jG 41 (.faddr 3) [jT 2] 38 false,jG 42 jL [jT 41] 38 false,jG 43 (jB .geq) [jT 40,jT 42] 38 false,jM 44 .pick [jT 38,jW,jT 43],jV 45 44,jG 46 (.faddr 3) [jT 2] 45 false,jG 47 jL [jT 46] 45 false,jX 48 1 45 false,jG 49 (jB .gtr) [jT 47,jT 48] 45 false,jM 50 .pick [jT 45,jW,jT 49],jV 34 50] (.cond (jT 34) (jO [jM 4 .mv [jI 2]] .ret) .skip))))))) (jO [jM 4 .mv [jI 0]] .ret)))
theorem B3e {q:Gl}:FnOK Tryz.prog (G q) 120 2 51 A0z [(.tmp 4)]:=⟨Tryz.f120,Tryz.func120,by kernel_rfl,by kernel_rfl,by kernel_rfl,by kernel_rfl⟩
def A8r:A0i:=(jO [jM 2 (.box 61) [jT 0],jM 3 .mv [jF]] (jO [jM 4 (.faddr 0) [jT 2],jM 5 (.load true 4) [jT 4],jM 6 (.faddr 0) [jT 1],jM 7 (.load true 4) [jT 6],jM 8 (.ex (.eqs false [.i,.s,.i,.i])) [jT 5,jT 7],jV 3 8] .ret))
def A5p:A0i:=(jO [jM 1 (.box 26) [jT 0],jM 2 .mv [jF]] (jO [jM 6 (.load true 5) [jT 1],jM 7 (.call 83) [jT 6],jM 8 (.call 165) [jT 7],jV 5 8,jM 9 (.ext 0) [jT 5],jM 10 (.ext 1) [jT 5],jM 3 (.alloc 26 [(.int .i64 0),(.string ⟨#[]⟩),(.int .i64 0),(.int .i64 0),(.slice none 0 0)]) [],⟨none,.store 5,[jT 3,jT 9],none⟩,jV 4 10] (jO [jV 11 4,jM 12 (jB .eql) [jT 11,(jI 0)],jV 13 12,jG 14 (.load true 5) [jT 3] 13 true,jG 15 (.load true 5) [jT 1] 13 true,jG 16 (.call 99) [jT 14,jT 15] 13 true,jG 17 (jB .eql) [jT 16,(jI 0)] 13 true,jM 18 .pick [jT 13,jT 17,jF],jV 2 18] .ret)))
theorem B6e {q:Gl}:FnOK Tryz.prog (G q) 122 1 19 A5p [(.tmp 2)]:=⟨Tryz.f122,Tryz.func122,by kernel_rfl,by kernel_rfl,by kernel_rfl,by kernel_rfl⟩
def C1c:A0i:=(jO [jM 1 (.box 39) [jT 0],jM 2 .mv [jI 0]] (.seq (jO [jM 5 (.faddr 0) [jT 1],jM 6 jL [jT 5],jM 7 (.call 60) [jT 6],jM 8 (.un .not) [jT 7]] (.cond (jT 8) (jO [jM 2 .mv [jI 1]] .ret) .skip)) (.seq (jO [jM 9 (.faddr 1) [jT 1],jM 10 jL [jT 9],jM 11 .lensl [jT 10],jM 12 (jB .gtr) [jT 11,(jI 256)]] (.cond (jT 12) (jO [jM 2 .mv [jI 7]] .ret) .skip)) (.seq (jO [jM 3 .mv [jI 0]] (.block 0 (.loop (.seq (jO [jV 13 3,jM 14 (.faddr 1) [jT 1],jM 15 jL [jT 14],jM 16 .lensl [jT 15],jM 17 (jB .lss) [jT 13,jT 16]] (.cond (jT 17) .skip (.exit 0))) (.seq (.block 1 (.seq (jO [jM 20 (.faddr 1) [jT 1],jM 21 jL [jT 20],jV 22 3,jM 23 (.iaddr 9) [jT 21,jT 22],jM 24 (.faddr 0) [jT 23],jM 25 jL [jT 24],jM 26 (.call 60) [jT 25],jM 27 (.un .not) [jT 26]] (.cond (jT 27) (jO [jM 2 .mv [jI 1]] .ret) .skip)) (.seq (.seq (.draw [jV 28 3,jM 29 (jB .gtr) [jT 28,(jI 0)],jV 30 29,jG 31 (.faddr 1) [jT 1] 30 true,jG 32 jL [jT 31] 30 true,jX 33 3 30 true,jG 34 (.iaddr 9) [jT 32,jT 33] 30 true,jG 35 (.faddr 0) [jT 34] 30 true,jG 36 jL [jT 35] 30 true,jG 37 (.faddr 1) [jT 1] 30 true,jG 38 jL [jT 37] 30 true,jX 39 3 30 true,jG 40 (jB .sub) [jT 39,(jI 1)] 30 true,jG 41 (.iaddr 9) [jT 38,jT 40] 30 true,jG 42 (.faddr 0) [jT 41] 30 true,jG 43 jL [jT 42] 30 true,jG 44 (jB .leq) [jT 36,jT 43] 30 true,jM 45 .pick [jT 30,jT 44,jF]]) (.cond (jT 45) (jO [jM 2 .mv [jI 3]] .ret) .skip)) (jO [jM 46 (.faddr 1) [jT 1],jM 47 jL [jT 46],jV 48 3,jM 49 (.iaddr 9) [jT 47,jT 48],jM 50 (.load true 9) [jT 49],jM 51 (.call 62) [jT 50],jV 4 51] (jO [jV 52 4,jM 53 (jB .neq) [jT 52,(jI 0)]] (.cond (jT 53) (jO [jV 54 4,jV 2 54] .ret) .skip)))))) (.ops [jV 18 3,jM 19 (jB .add) [jT 18,(jI 1)],jV 3 19])))))) (jO [jM 2 .mv [jI 0]] .ret)))))
theorem D3r {q:Gl}:FnOK Tryz.prog (G q) 27 1 55 C1c [(.tmp 2)]:=⟨Tryz.f27,Tryz.func27,by kernel_rfl,by kernel_rfl,by kernel_rfl,by kernel_rfl⟩
def C4f:A0i:=(jO [jM 1 (.box 28) [jT 0],jM 2 .mv [jI 0]] (jO [jM 5 (.faddr 1) [jT 1],jM 6 jL [jT 5],jM 7 (.call 108) [jT 6],jV 3 7] (.seq (jO [jV 8 3,jM 9 (jB .neq) [jT 8,(jI 0)]] (.cond (jT 9) (jO [jV 10 3,jV 2 10] .ret) .skip)) (.seq (jO [jM 11 (.faddr 2) [jT 1],jM 12 jL [jT 11],jM 13 (jB .lss) [jT 12,(jI 0)],jV 14 13,jG 15 (.faddr 2) [jT 1] 14 false,jG 16 jL [jT 15] 14 false,jG 17 (jB .gtr) [jT 16,(jI 2)] 14 false,jM 18 .pick [jT 14,jW,jT 17]] (.cond (jT 18) (jO [jM 2 .mv [jI 14]] .ret) .skip)) (.seq (jO [jM 19 (.faddr 3) [jT 1],jM 20 jL [jT 19],jM 21 .lensl [jT 20],jM 22 (jB .gtr) [jT 21,(jI 256)]] (.cond (jT 22) (jO [jM 2 .mv [jI 7]] .ret) .skip)) (.seq (jO [jM 4 .mv [jI 0]] (.block 0 (.loop (.seq (jO [jV 23 4,jM 24 (.faddr 3) [jT 1],jM 25 jL [jT 24],jM 26 .lensl [jT 25],jM 27 (jB .lss) [jT 23,jT 26]] (.cond (jT 27) .skip (.exit 0))) (.seq (.block 1 (jO [jM 30 (.load true 9) [jT 1],jV 31 4,jM 32 (.call 109) [jT 30,jT 31],jV 3 32] (jO [jV 33 3,jM 34 (jB .neq) [jT 33,(jI 0)]] (.cond (jT 34) (jO [jV 35 3,jV 2 35] .ret) .skip)))) (.ops [jV 28 4,jM 29 (jB .add) [jT 28,(jI 1)],jV 4 29])))))) (jO [jM 36 (.load true 9) [jT 1],jM 37 (.call 110) [jT 36],jV 2 37] .ret)))))))
theorem E0n {q:Gl}:FnOK Tryz.prog (G q) 62 1 38 C4f [(.tmp 2)]:=⟨Tryz.f62,Tryz.func62,by kernel_rfl,by kernel_rfl,by kernel_rfl,by kernel_rfl⟩
def A7g:A0i:=(jO [jM 2 (.box 28) [jT 0],jM 4 .mv [jI 0]] (jO [jM 7 (.faddr 3) [jT 2],jM 8 jL [jT 7],jV 9 1,jM 10 (.iaddr 5) [jT 8,jT 9],jM 11 (.faddr 0) [jT 10],jM 12 (.load true 4) [jT 11],jM 5 (.alloc 59 [(.int .i64 0),(.string ⟨#[]⟩),(.int .i64 0),(.int .i64 0)]) [],⟨none,.store 4,[jT 5,jT 12],none⟩] (.seq (jO [jM 13 (.faddr 0) [jT 5],jM 14 jL [jT 13],jM 15 (jB .lss) [jT 14,(jI 0)],jV 16 15,jG 17 (.faddr 0) [jT 5] 16 false,jG 18 jL [jT 17] 16 false,jG 19 (jB .gtr) [jT 18,(jI 3)] 16 false,jM 20 .pick [jT 16,jW,jT 19]] (.cond (jT 20) (jO [jM 4 .mv [jI 14]] .ret) .skip)) (.seq (jO [jM 21 (.faddr 0) [jT 5],jM 22 jL [jT 21],jM 23 (jB .eql) [jT 22,(jI 3)],jM 24 (.faddr 1) [jT 5],jM 25 jL [jT 24],jM 26 (jB .eql) [jT 25,(.k (.t (.v (.string ⟨#[]⟩))))],jM 27 (.bin true .neq none) [jT 23,jT 26],jV 28 27,jG 29 (.faddr 0) [jT 5] 28 false,jG 30 jL [jT 29] 28 false,jG 31 (jB .neq) [jT 30,(jI 3)] 28 false,jX 32 31 28 false,jG 33 (.faddr 1) [jT 5] 32 true,jG 34 jL [jT 33] 32 true,jG 35 (.call 60) [jT 34] 32 true,jG 36 (.un .not) [jT 35] 32 true,jG 37 .pick [jT 32,jT 36,jF] 28 false,jM 38 .pick [jT 28,jW,jT 37]] (.cond (jT 38) (jO [jM 4 .mv [jI 1]] .ret) .skip)) (.seq (jO [jM 39 (.faddr 2) [jT 5],jM 40 jL [jT 39],jM 41 (jB .lss) [jT 40,(jI 0)],jV 42 41,jG 43 (.faddr 2) [jT 5] 42 false,jG 44 jL [jT 43] 42 false,jG 45 (.faddr 3) [jT 5] 42 false,jG 46 jL [jT 45] 42 false,jG 47 (jB .geq) [jT 44,jT 46] 42 false,jM 48 .pick [jT 42,jW,jT 47],jV 49 48,jG 50 (.faddr 3) [jT 5] 49 false,jG 51 jL [jT 50] 49 false,jG 52 (.faddr 1) [jT 2] 49 false,jG 53 jL [jT 52] 49 false,jG 54 .lensl [jT 53] 49 false,jG 55 (jB .gtr) [jT 51,jT 54] 49 false,jM 56 .pick [jT 49,jW,jT 55]] (.cond (jT 56) (jO [jM 4 .mv [jI 2]] .ret) .skip)) (.seq (jO [jM 6 .mv [jI 0]] (.block 0 (.loop (.seq (jO [jV 57 6,jV 58 1,jM 59 (jB .lss) [jT 57,jT 58]] (.cond (jT 59) .skip (.exit 0))) (.seq (.block 1 (.seq (.draw [jM 62 (.faddr 3) [jT 2],jM 63 jL [jT 62],jV 64 6,jM 65 (.iaddr 5) [jT 63,jT 64],jM 66 (.faddr 0) [jT 65],jM 67 (.load true 4) [jT 66],jM 68 (.load true 4) [jT 5],jM 69 (.ex (.eqs false [.i,.s,.i,.i])) [jT 67,jT 68]]) (.cond (jT 69) (jO [jM 4 .mv [jI 4]] .ret) .skip))) (.ops [jV 60 6,jM 61 (jB .add) [jT 60,(jI 1)],jV 6 61])))))) (jO [jM 4 .mv [jI 0]] .ret)))))))
theorem B3f {q:Gl}:FnOK Tryz.prog (G q) 109 2 70 A7g [(.tmp 4)]:=⟨Tryz.f109,Tryz.func109,by kernel_rfl,by kernel_rfl,by kernel_rfl,by kernel_rfl⟩
def B1g:A0i:=(jO [jM 1 (.box 28) [jT 0],jM 2 .mv [jI 0]] (.seq (jO [jM 5 (.faddr 2) [jT 1],jM 6 jL [jT 5],jM 7 (jB .neq) [jT 6,(jI 1)]] (.cond (jT 7) (.seq (jO [jM 8 (.faddr 4) [jT 1],jM 9 (.load true 5) [jT 8],jM 10 (.build [(0,1),(1,1),(2,1),(3,1),(4,1)] [(.int .i64 0),(.string ⟨#[]⟩),(.int .i64 0),(.int .i64 0),(.slice none 0 0)] []) [],jM 11 (.call 31) [jT 9,jT 10],jM 12 (jB .neq) [jT 11,(jI 0)]] (.cond (jT 12) (jO [jM 2 .mv [jI 13]] .ret) .skip)) (jO [jM 2 .mv [jI 0]] .ret)) .skip)) (.seq (jO [jM 13 (.faddr 4) [jT 1],jM 14 (.faddr 2) [jT 13],jM 15 jL [jT 14],jM 16 (jB .neq) [jT 15,(jI 0)],jV 17 16,jG 18 (.faddr 4) [jT 1] 17 false,jG 19 (.faddr 3) [jT 18] 17 false,jG 20 jL [jT 19] 17 false,jG 21 (.faddr 1) [jT 1] 17 false,jG 22 jL [jT 21] 17 false,jG 23 .lensl [jT 22] 17 false,jG 24 (jB .neq) [jT 20,jT 23] 17 false,jM 25 .pick [jT 17,jW,jT 24]] (.cond (jT 25) (jO [jM 2 .mv [jI 2]] .ret) .skip)) (jO [jM 27 (.faddr 4) [jT 1],jM 28 (.load true 5) [jT 27],jM 29 (.call 89) [jT 28],jM 30 (.call 143) [jT 29],jV 26 30,jM 31 (.ext 0) [jT 26],jM 32 (.ext 1) [jT 26],jM 3 (.alloc 26 [(.int .i64 0),(.string ⟨#[]⟩),(.int .i64 0),(.int .i64 0),(.slice none 0 0)]) [],⟨none,.store 5,[jT 3,jT 31],none⟩,jV 4 32] (.seq (jO [jV 33 4,jM 34 (jB .neq) [jT 33,(jI 0)],jV 35 34,jG 36 (.load true 5) [jT 3] 35 false,jG 37 (.faddr 4) [jT 1] 35 false,jG 38 (.load true 5) [jT 37] 35 false,jG 39 (.call 31) [jT 36,jT 38] 35 false,jG 40 (jB .neq) [jT 39,(jI 0)] 35 false,jM 41 .pick [jT 35,jW,jT 40]] (.cond (jT 41) (jO [jM 2 .mv [jI 13]] .ret) .skip)) (jO [jM 2 .mv [jI 0]] .ret))))))
theorem C1d {q:Gl}:FnOK Tryz.prog (G q) 110 1 42 B1g [(.tmp 2)]:=⟨Tryz.f110,Tryz.func110,by kernel_rfl,by kernel_rfl,by kernel_rfl,by kernel_rfl⟩
end Go.Proofs.YtmplckgbeaifkaaGreatDoor
