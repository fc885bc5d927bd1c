/- Auxiliary facts. -/
import Derived.Test.YtmgjopafgboljaaGreatDoorVEQ42
import Derived.Test.YtmgjopafgboljaaGreatDoorVEQ40
import Derived.Test.YtmgjopafgboljaaGreatDoorVEQ33
set_option linter.unusedSimpArgs false
set_option maxRecDepth 100000
set_option maxHeartbeats 0
set_option linter.unusedVariables false
namespace Go.Proofs.YtmgjopafgboljaaGreatDoor
open Go Go.Abs
theorem E0l (s x:ByteArray):A6d s x=decide (lb s<lb x):=by
 unfold A6d;rw[bytesLess_eq,A2d,A2d]
end Go.Proofs.YtmgjopafgboljaaGreatDoor
namespace Go.Abs
open Go
section
variable {α : Type} {e : Enc α} {ty b : Nat} {H : Heap} {l : List α}
theorem appX {by' nx:Nat} (x:α) (z:Nat) (hz:e.z=z) (cs:List PV) (hcs:cs=(e.enc x).map .t) (n:Nat) (hn:n=l.length) (h:Abs.look H b=some (A0l e ty l)) (hb:b<nx)
  (hl:(l.length+1)*by'<=140737488355328) (hl2:l.length<=1000000000000) :
  ∃H',appM ty z by' ((nx,.cells ty cs)::H) (nx+1) (.row b 0 n z) (.row nx 0 1 z)=some (.row (nx+1) 0 (n+1) z,H',nx+2)/\Abs.look H' (nx+1)=some (A0l e ty (l++[x])) /\
   (∀c,c<nx->c≠b->Abs.look H' c=Abs.look H c)/\(Frs H nx->Frs H' (nx+2)):=
 ⟨_,D8t x z hz cs hcs n (nx+1) (nx+2) hn rfl rfl h hb hl hl2,by rw[look_cons,if_pos rfl],fun c h1 h2=>by
  rw[look_cons,if_neg (by omega),A1e,if_neg h2,look_cons,if_neg (by omega)],fun h=>((h.cons (Nat.lt_succ_self _) (Nat.le_succ _)).rem).cons (by omega) (by omega)⟩
end
end Go.Abs
namespace Go.Proofs.YtmgjopafgboljaaGreatDoor
open Go Go.Abs
variable {q : Gl}
theorem C8l (x:ByteArray):∀l:List ByteArray,(insI x l).length<=l.length+1
 | []=>by simp[insI]
 | s::r=>by
  rw[insI];have:=C8l x r;split
  ·simp only[List.length_cons];omega
  ·split<;>simp
theorem C5x:∀(l m acc:List ByteArray),A3m acc (l++m)=A3m (A3m acc l) m
 | [],m,acc=>rfl
 | x::r,m,acc=>by rw[List.cons_append,A3m,A3m,C5x r m]
theorem D6i {l:List ByteArray} {j:Nat} {x:ByteArray} (h:l[j]?=some x):A3m [] (l.take (j+1))=insI x (A3m [] (l.take j)):=by
 rw[List.take_add_one,h];show A3m [] (l.take j++[x])=_;rw[C5x];rfl
theorem B7o:∀(l acc:List ByteArray),(A3m acc l).length<=acc.length+l.length
 | [],acc=>by simp[A3m]
 | x::r,acc=>by
  rw[A3m];have h1:=B7o r (insI x acc);have h2:=C8l x acc;simp only[List.length_cons];omega
structure PrI where
 H:Heap
 nx:Nat
 ko:Nat
 kn:Nat
 i:Nat
 nl:List ByteArray
 dn:Bool
def SPi (x:ByteArray) (r:Nat) (out:List ByteArray) (a:PrI):A0c:=⟨[(8,.t (iv (a.i:Int))),(7,.t (bv a.dn)),(6,.t (sv x)),(5,.row a.kn 0 a.nl.length 1),(4,.t (iv (r:Int))),(3,.row a.ko 0 out.length 1),(1,.ptr 0 0)],a.H,a.nx,65⟩
structure OkPi (X:Row) (x:ByteArray) (out:List ByteArray) (a:PrI):Prop where
 h0:Abs.look a.H 0=some X
 ho:Abs.look a.H a.ko=some (A0l eStr tyS out)
 hn:Abs.look a.H a.kn=some (A0l eStr tyS a.nl)
 o0:0<a.ko
 n0:0<a.kn
 ne:a.ko≠a.kn
 ol:a.ko<a.nx
 nl:a.kn<a.nx
 le:a.i<=out.length
 eq:a.nl++(if a.dn then out.drop a.i else insI x (out.drop a.i))=insI x out
theorem OkPi.len {X:Row} {x:ByteArray} {out:List ByteArray} {a:PrI} (h:OkPi X x out a):a.nl.length<=out.length+1:=by
 have h1:=congrArg List.length h.eq;have h2:=C8l x out;rw[List.length_append]at h1;omega
structure PrO where
 H:Heap
 nx:Nat
 ko:Nat
 r:Nat
def SPo (out:Nat->List ByteArray) (a:PrO):A0c:=⟨[(4,.t (iv (a.r:Int))),(3,.row a.ko 0 (out a.r).length 1),(1,.ptr 0 0)],a.H,a.nx,65⟩
structure OkPo (X:Row) (out:Nat->List ByteArray) (n:Nat) (a:PrO):Prop where
 h0:Abs.look a.H 0=some X
 ho:Abs.look a.H a.ko=some (A0l eStr tyS (out a.r))
 o0:0<a.ko
 ol:a.ko<a.nx
 le:a.r<=n
theorem D3c (x:ByteArray) (n:Nat):A1v tyS 1 [.string ⟨#[]⟩] 1 [(0,.t (sv x))] n=some (.row n 0 1 1,.cells tyS [.t (sv x)]):=rfl
theorem D6j {m:Mr} {cs:List T} (hm:IsMr m cs) (hs:SmM m):A1d Tryz.prog (G q) 22 [.ag cs] (· = slT eStr (A3m [] (A7y m))):=by
 obtain⟨tv,tr,tc,rl,rfl,hv,hr,hrm,hc⟩:=hm
 obtain⟨X,hX⟩:∃X,X=mRow [iv m.top,iv m.index,tv,tr,tc]:=⟨_,rfl⟩
 have ld:∀{H:Heap},Abs.look H 0=some X->LdM (iv m.top) (iv m.index) tv tr tc H 0:=fun h=>ldM (by rw[h,hX]);have lr:=hr.len
 have hrl:rl.length=m.rels.length:=by rw[<-hrm,List.length_map]
 have hsr:=hs.rels;have cd:=cd5 (iv m.top) (iv m.index) tv tr tc
 obtain⟨L,hL⟩:∃L,L=A7y m:=⟨_,rfl⟩
 have hLl:L.length=rl.length:=by rw[hL];unfold A7y;rw[List.length_map,hrl]
 rw[<-hL]
 obtain⟨out,hout⟩:∃out:Nat->List ByteArray,out=fun r=>A3m [] (L.take r):=⟨_,rfl⟩
 have hol:∀r,(out r).length<=r:=fun r=>by
  have:=B7o (L.take r) [];rw[List.length_take,List.length_nil]at this;rw[hout];show(A3m [] (L.take r)).length<=r;omega
 have o0:out 0=[]:=by rw[hout];rfl
 have oE:out rl.length=A3m [] L:=by rw[hout,<-hLl];show A3m [] (L.take L.length)=_;rw[List.take_length]
 rw[<-oE]
 obtain⟨R,hR⟩:∃R,R=slT eStr (out rl.length):=⟨_,rfl⟩
 rw[<-hR];refine D6b.call rfl ?_;(conv in C2m=>cbv);refine A0a A0g ?_;simp -implicitDefEqProofs [cd];rw[show Row.cells 26 [.t (iv m.top),.t (iv m.index),.t tv,.t tr,.t tc]=X from hX.symm];refine A0a A0g ?_;simp -implicitDefEqProofs [E8y];refine A0q (fun a:PrO=>⟨[(3,.row a.ko 0 (out rl.length).length 1)],a.H,a.nx,65⟩) (fun a=>Abs.look a.H a.ko=some (A0l eStr tyS (out rl.length))) (fun _=>rfl) ?_ ?_
 ·refine A0a A0g ?_;simp -implicitDefEqProofs;refine A0j ?_;refine A0n (SPo out) (fun a=>rl.length-a.r) (OkPo X out rl.length) ⟨[(1,.cells tyS []),(0,X)],2,1,0⟩ (fun _=>rfl) ⟨rfl,by rw[o0];rfl,by show 0<1;omega,by show 1<2;omega,Nat.zero_le _⟩ ?_ rfl ?_
  ·exact A0d (by simp -implicitDefEqProofs [SPo,o0])
  rintro⟨H,nx,ko,r⟩ ⟨h0,ho,hok0,hokl,hle⟩;simp only at h0 ho hok0 hokl hle;have z:=ld h0;by_cases hlt:r<rl.length
  ·obtain⟨c,hc1⟩:∃c,rl[r]?=some c:=⟨_,List.getElem?_eq_getElem (by omega)⟩
   have hx:m.rels[r]?=some c.x:=by rw[<-hrm,List.getElem?_map,hc1];rfl
   have hxL:L[r]?=some c.x.pred:=by rw[hL];unfold A7y;rw[List.getElem?_map,hx];rfl
   obtain⟨ta,hcs,hta⟩:=c.ok;have i1:=hr.iaddr hc1 .i64;have hz:eEC.z=3:=rfl;rw[hz,show eEC.enc c=c.cs from rfl,hcs]at i1;have w1:IntKind.i64.wrap ((r:Int)+1)=((r+1:Nat):Int):=A0k (by omega) (by omega)
   obtain⟨x,hxe⟩:∃x,x=c.x.pred:=⟨_,rfl⟩
   rw[<-hxe]at hxL i1
   have ostep:out (r+1)=insI x (out r):=by rw[hout];exact D6i hxL
   have hol1:=hol r
   obtain⟨o,hoe⟩:∃o,o=out r:=⟨_,rfl⟩
   rw[<-hoe]at ho ostep hol1;refine A0a A0g ?_;simp -implicitDefEqProofs [SPo,<-hoe,z.l3,lr,hlt];refine A0q (fun a:PrO=>⟨[(4,.t (iv (r:Int))),(3,.row a.ko 0 (out (r+1)).length 1),(1,.ptr 0 0)],a.H,a.nx,65⟩) (fun a=>OkPo X out rl.length ⟨a.H,a.nx,a.ko,r+1⟩) (fun _=>rfl) ?_ ?_
   ·refine A0j ?_;refine A0a A0g ?_;simp -implicitDefEqProofs [E8y]
    obtain⟨H1,hH1⟩:∃H1,H1=(nx,Row.cells tyS [])::H:=⟨_,rfl⟩
    have k0:Abs.look H1 0=some X:=by rw[hH1,look_cons,if_neg (by omega)];exact h0
    have ko1:Abs.look H1 ko=some (A0l eStr tyS o):=by rw[hH1,look_cons,if_neg (by omega)];exact ho
    have kn1:Abs.look H1 nx=some (A0l eStr tyS []):=by rw[hH1,look_cons,if_pos rfl];rfl
    have z1:=ld k0;rw[<-hH1];refine A0a A0g ?_;simp -implicitDefEqProofs [z1.l3,i1,lp];refine A0a A0g ?_;simp -implicitDefEqProofs;refine A0q (fun a:PrI=>⟨[(7,.t (bv a.dn)),(6,.t (sv x)),(5,.row a.kn 0 a.nl.length 1),(4,.t (iv (r:Int))),(3,.row a.ko 0 o.length 1),(1,.ptr 0 0)],a.H,a.nx,65⟩) (fun a=>OkPi X x o a/\a.i=o.length) (fun _=>rfl) ?_ ?_
    ·refine A0a A0g ?_;simp -implicitDefEqProofs;refine A0j ?_;refine A0n (SPi x r o) (fun a=>o.length-a.i) (OkPi X x o) ⟨H1,nx+1,ko,nx,0,[],false⟩ (fun _=>rfl) ⟨k0,ko1,kn1,hok0,by show 0<nx;omega,by show ko≠nx;omega,by show ko<nx+1;omega,by show nx<nx+1;omega,Nat.zero_le _,rfl⟩ ?_ rfl ?_
     ·exact A0d (by simp -implicitDefEqProofs [SPi])
     rintro⟨H2,n2,ko2,kn2,i,nl,dn⟩ hok;have hlen:=hok.len;obtain⟨g0,go,gn,o0',n0',ne',ol',nl',le',eq'⟩:=hok;simp only at g0 go gn o0' n0' ne' ol' nl' le' eq' hlen;by_cases hil:i<o.length
     ·obtain⟨s,hs1⟩:∃s,o[i]?=some s:=⟨_,List.getElem?_eq_getElem hil⟩
      have ia:=D6h (b:=ko2) (e:=eStr) hs1 rfl;have ls:=B1s (e:=eStr) (c:=sv s) go hs1 rfl rfl;have w2:IntKind.i64.wrap ((i:Int)+1)=((i+1:Nat):Int):=A0k (by omega) (by omega)
      have hd:o.drop i=s::o.drop (i+1):=by rw[List.drop_eq_getElem_cons hil,(List.getElem?_eq_some_iff.1 hs1).2]
      rw[hd]at eq';obtain⟨H3,a3,b3,c3,_⟩:=appX (by':=16) (nx:=n2) (ty:=tyS) s 1 rfl [.t (sv s)] rfl nl.length rfl gn nl' (by omega) (by omega)
      have d0:Abs.look H3 0=some X:=by rw[c3 0 (by omega) (by omega)];exact g0
      have do_:Abs.look H3 ko2=some (A0l eStr tyS o):=by rw[c3 ko2 ol' ne'];exact go
      have el3:(nl++[s]).length=nl.length+1:=by simp
      cases dn with
      | true=>
       refine A0e A0g ?_;simp -implicitDefEqProofs [SPi,A8f,hil,ia,ls,D3c,a3,w2];refine Abs.Next.mk ⟨H3,n2+2,ko2,n2+1,i+1,nl++[s],true⟩ ⟨⟨d0,do_,b3,o0',by show 0<n2+1;omega,by show ko2≠n2+1;omega,by show ko2<n2+2;omega,by show n2+1<n2+2;omega,hil,?_⟩,by show o.length-(i+1)<o.length-i;omega⟩ (A0d (by simp -implicitDefEqProofs [SPi,el3]));show(nl++[s])++o.drop (i+1)=_;rw[List.append_assoc];exact eq'
      | false=>
       have eq':nl++insI x (s::o.drop (i+1))=insI x o:=eq';rw[insI]at eq';by_cases hl1:lb s<lb x
       ·have c1:A6d s x=true:=by rw[E0l];exact decide_eq_true hl1
        rw[if_pos hl1]at eq';refine A0e A0g ?_;simp -implicitDefEqProofs [SPi,A8f,hil,ia,ls,D3c,a3,w2,c1];refine Abs.Next.mk ⟨H3,n2+2,ko2,n2+1,i+1,nl++[s],false⟩ ⟨⟨d0,do_,b3,o0',by show 0<n2+1;omega,by show ko2≠n2+1;omega,by show ko2<n2+2;omega,by show n2+1<n2+2;omega,hil,?_⟩,by show o.length-(i+1)<o.length-i;omega⟩ (A0d (by simp -implicitDefEqProofs [SPi,el3]));show(nl++[s])++insI x (o.drop (i+1))=_;rw[List.append_assoc];exact eq'
       ·have c1:A6d s x=false:=by rw[E0l];exact decide_eq_false hl1
        rw[if_neg hl1]at eq';by_cases hsx:s=x
        ·have c2:A6d x s=false:=by rw[hsx];exact B4f x
         rw[if_pos hsx]at eq';refine A0e A0g ?_;simp -implicitDefEqProofs [SPi,A8f,hil,ia,ls,D3c,a3,w2,c1,c2];refine Abs.Next.mk ⟨H3,n2+2,ko2,n2+1,i+1,nl++[s],true⟩ ⟨⟨d0,do_,b3,o0',by show 0<n2+1;omega,by show ko2≠n2+1;omega,by show ko2<n2+2;omega,by show n2+1<n2+2;omega,hil,?_⟩,by show o.length-(i+1)<o.length-i;omega⟩ (A0d (by simp -implicitDefEqProofs [SPi,el3]));show(nl++[s])++o.drop (i+1)=_;rw[List.append_assoc];exact eq'
        ·have c2:A6d x s=true:=C4w c1 hsx;rw[if_neg hsx]at eq';obtain⟨H4,a4,b4,c4,_⟩:=appX (by':=16) (nx:=n2) (ty:=tyS) x 1 rfl [.t (sv x)] rfl nl.length rfl gn nl' (by omega) (by omega)
         have p0:Abs.look H4 0=some X:=by rw[c4 0 (by omega) (by omega)];exact g0
         have po:Abs.look H4 ko2=some (A0l eStr tyS o):=by rw[c4 ko2 ol' ne'];exact go
         have ls4:=B1s (e:=eStr) (c:=sv s) po hs1 rfl rfl;obtain⟨H5,a5,b5,c5,_⟩:=appX (by':=16) (nx:=n2+2) (ty:=tyS) (b:=n2+1) s 1 rfl [.t (sv s)] rfl (nl.length+1) (by simp) b4 (by omega) (by simp;omega) (by simp;omega)
         have q0:Abs.look H5 0=some X:=by rw[c5 0 (by omega) (by omega)];exact p0
         have qo:Abs.look H5 ko2=some (A0l eStr tyS o):=by rw[c5 ko2 (by omega) (by omega)];exact po
         refine A0e A0g ?_;simp -implicitDefEqProofs [SPi,A8f,hil,ia,ls,ls4,D3c,a4,a5,w2,c1,c2];refine Abs.Next.mk ⟨H5,n2+4,ko2,n2+3,i+1,nl++[x]++[s],true⟩ ⟨⟨q0,qo,b5,o0',by show 0<n2+3;omega,by show ko2≠n2+3;omega,by show ko2<n2+4;omega,by show n2+3<n2+4;omega,hil,?_⟩,by show o.length-(i+1)<o.length-i;omega⟩ (A0d (by simp -implicitDefEqProofs [SPi]));show(nl++[x]++[s])++o.drop (i+1)=_;rw[List.append_assoc,List.append_assoc];exact eq'
     ·have ei:i=o.length:=by omega
      refine A0e A0g ?_;simp -implicitDefEqProofs [SPi,A8f,hil];refine Abs.Next.mk ⟨H2,n2,ko2,kn2,i,nl,dn⟩ ⟨⟨g0,go,gn,o0',n0',ne',ol',nl',le',eq'⟩,ei⟩ (A0d (by simp -implicitDefEqProofs))
    ·rintro⟨H2,n2,ko2,kn2,i,nl,dn⟩ ⟨hok,ei⟩;have hlen:=hok.len;obtain⟨g0,go,gn,o0',n0',ne',ol',nl',le',eq'⟩:=hok;simp only at g0 go gn o0' n0' ne' ol' nl' le' eq' hlen ei;rw[ei,List.drop_length]at eq';rw[ostep]
     cases dn with
     | true=>
      have eq':nl++[]=insI x o:=eq';rw[List.append_nil]at eq';refine A0e A0g ?_;simp -implicitDefEqProofs;refine Abs.Next.mk ⟨H2,n2,kn2,0⟩ ⟨g0,?_,n0',nl',hlt⟩ (A0d (by simp -implicitDefEqProofs [eq']));show Abs.look H2 kn2=some (A0l eStr tyS (out (r+1)));rw[ostep,<-eq'];exact gn
     | false=>
      have eq':nl++[x]=insI x o:=eq';obtain⟨H3,a3,b3,c3,_⟩:=appX (by':=16) (nx:=n2) (ty:=tyS) x 1 rfl [.t (sv x)] rfl nl.length rfl gn nl' (by omega) (by omega)
      have d0:Abs.look H3 0=some X:=by rw[c3 0 (by omega) (by omega)];exact g0
      have el3:(insI x o).length=nl.length+1:=by rw[<-eq'];simp
      refine A0e A0g ?_;simp -implicitDefEqProofs [D3c,a3];refine Abs.Next.mk ⟨H3,n2+2,n2+1,0⟩ ⟨d0,?_,by show 0<n2+1;omega,by show n2+1<n2+2;omega,hlt⟩ (A0d (by simp -implicitDefEqProofs [el3]));show Abs.look H3 (n2+1)=some (A0l eStr tyS (out (r+1)));rw[ostep,<-eq'];exact b3
   ·rintro⟨H',nx',ko',r'⟩ hok';refine A0e A0g ?_;simp -implicitDefEqProofs [w1];exact Abs.Next.mk ⟨H',nx',ko',r+1⟩ ⟨hok',by show rl.length-(r+1)<rl.length-r;omega⟩ (A0d (by simp -implicitDefEqProofs [SPo]))
  ·have er:r=rl.length:=by omega
   refine A0e A0g ?_;simp -implicitDefEqProofs [SPo,z.l3,lr,hlt];refine Abs.Next.mk ⟨H,nx,ko,0⟩ ?_ (A0d (by simp -implicitDefEqProofs [er]));rw[<-er];exact ho
 rintro⟨H,nx,ko,r⟩ h;have hne:=A2s (e:=eStr) h;have hzs:eStr.z=1:=rfl;rw[hzs]at hne;refine A0e A0g ?_;simp -implicitDefEqProofs [hne,hR,-toT]
end Go.Proofs.YtmgjopafgboljaaGreatDoor
