/- Auxiliary facts. -/
import Derived.Test.YtmgjopafgboljaaGreatDoorVEQ51
import Derived.Test.YtmgjopafgboljaaGreatDoorVEQ31
set_option linter.unusedSimpArgs false
set_option maxRecDepth 100000
set_option maxHeartbeats 0
set_option linter.unusedVariables false
namespace Go.Proofs.YtmgjopafgboljaaGreatDoor
open Go Go.Abs
variable {q : Gl}
theorem eqs_a (r:ByteArray) (v:Int):exM (.eqs true [.s,.i]) [.t (.ag [sv r,iv v]),.t (.ag [sv r,iv v])]=some (.t (bv false)):=by simp[exM,A1t]
theorem eqs_q (u v:Int):exM (.eqs true [.i,.i]) [.t (.ag [iv u,iv v]),.t (.ag [iv u,iv v])]=some (.t (bv false)):=by simp[exM,A1t]
structure EqD where
 H:Heap
 nx:Nat
 i:Nat
def SE5 (c:EqD):A0c:=⟨[(5,.t (iv (c.i:Int))),(2,.ptr 0 0),(3,.ptr 1 0)],c.H,c.nx,142⟩
def SE6 (c:EqD):A0c:=⟨[(6,.t (iv (c.i:Int))),(2,.ptr 0 0),(3,.ptr 1 0)],c.H,c.nx,142⟩
def SE10 (c:EqD):A0c:=⟨[(10,.t (iv (c.i:Int))),(2,.ptr 0 0),(3,.ptr 1 0)],c.H,c.nx,142⟩
def SE9 (i nx:Nat) (H:Heap) (j:Nat):A0c:=⟨[(9,.t (iv (j:Int))),(7,.ptr nx 0),(8,.ptr (nx+1) 0),(6,.t (iv (i:Int))),(2,.ptr 0 0),(3,.ptr 1 0)],H,nx+2,142⟩
theorem B0f {m:Mr} {cs ds:List T} (hm:IsMr m cs) (hm':IsMr m ds) (hs:SmM m):A1d Tryz.prog (G q) 17 [.ag cs,.ag ds] (· = bv true):=by
 obtain⟨tv,tr,tc,rl,rfl,hv,hr,hrm,hc⟩:=hm;obtain⟨uv,ur,uc,sl,rfl,kv,kr,krm,kc⟩:=hm'
 obtain⟨X,hX⟩:∃X,X=mRow [iv m.top,iv m.index,tv,tr,tc]:=⟨_,rfl⟩
 obtain⟨Y,hY⟩:∃Y,Y=mRow [iv m.top,iv m.index,uv,ur,uc]:=⟨_,rfl⟩
 have ldx:∀{H:Heap},Abs.look H 0=some X->LdM (iv m.top) (iv m.index) tv tr tc H 0:=fun h=>ldM (by rw[h,hX]);have ldy:∀{H:Heap},Abs.look H 1=some Y->LdM (iv m.top) (iv m.index) uv ur uc H 1:=fun h=>ldM (by rw[h,hY]);have l1:=hv.len;have l2:=hr.len;have l3:=hc.len;have k1:=kv.len;have k2:=kr.len;have k3:=kc.len
 have hrl:rl.length=m.rels.length:=by rw[<-hrm,List.length_map]
 have hsl:sl.length=m.rels.length:=by rw[<-krm,List.length_map]
 rw[hrl]at l2;rw[hsl]at k2;have c1:=cd5 (iv m.top) (iv m.index) tv tr tc;have c2:=cd5 (iv m.top) (iv m.index) uv ur uc;refine D6a.call rfl ?_;(conv in C2l=>cbv);refine A0a A0g ?_;simp -implicitDefEqProofs [c1,c2]
 obtain⟨H0,hH0⟩:∃H0:Heap,H0=[(1,Y),(0,X)]:=⟨_,rfl⟩
 have x0:Abs.look H0 0=some X:=by rw[hH0];rfl
 have y0:Abs.look H0 1=some Y:=by rw[hH0];rfl
 refine MC.sub (s':=⟨[(2,.ptr 0 0),(3,.ptr 1 0)],H0,2,142⟩) (by rw[hH0,hX,hY];exact A0d (by simp -implicitDefEqProofs)) rfl ?_;have Lx:=ldx x0;have Ly:=ldy y0;refine A0a A0g ?_;simp -implicitDefEqProofs [Lx.l0,Lx.l1,Lx.l2,Lx.l3,Lx.l4,Ly.l0,Ly.l1,Ly.l2,Ly.l3,Ly.l4,l1,l2,l3,k1,k2,k3];refine A0q (fun _:Unit=>⟨[(2,.ptr 0 0),(3,.ptr 1 0)],H0,2,142⟩) (fun _=>True) (fun _=>rfl) ?_ ?_
 ·refine A0a A0g ?_;simp -implicitDefEqProofs;refine A0j ?_;refine A0n (fun i=>SE5 ⟨H0,2,i⟩) (fun i=>m.vars.length-i) (fun i=>i<=m.vars.length) 0 (fun _=>rfl) (Nat.zero_le _) ?_ rfl ?_
  ·exact A0d (by simp -implicitDefEqProofs [SE5])
  rintro i hi;by_cases hlt:i<m.vars.length
  ·obtain⟨x,hx⟩:∃x,m.vars[i]?=some x:=⟨_,List.getElem?_eq_getElem hlt⟩
   have i1:=hv.iaddr hx .i64;have i2:=kv.iaddr hx .i64;rw[show eStr.z=1 from rfl,show eStr.enc x=[sv x]from rfl]at i1 i2;have w1:=C3b i (by have:=hs.vars;omega);refine A0a A0g ?_;simp -implicitDefEqProofs [SE5,Lx.l2,l1,hlt];refine A0a A0g ?_;simp -implicitDefEqProofs [Lx.l2,Ly.l2,i1,i2,lp];refine A0e A0g ?_;simp -implicitDefEqProofs [w1];exact Abs.Next.mk (i+1) ⟨hlt,by show m.vars.length-(i+1)<m.vars.length-i;omega⟩ (A0d (by simp -implicitDefEqProofs [SE5]))
  ·refine A0a A0g ?_;simp -implicitDefEqProofs [SE5,Lx.l2,l1,hlt];exact Abs.Next.mk () trivial (A0d (by simp -implicitDefEqProofs))
 rintro _ _;refine A0q (fun c:EqD=>⟨[(2,.ptr 0 0),(3,.ptr 1 0)],c.H,c.nx,142⟩) (fun c=>Abs.look c.H 0=some X/\Abs.look c.H 1=some Y) (fun _=>rfl) ?_ ?_
 ·refine A0a A0g ?_;simp -implicitDefEqProofs;refine A0j ?_;refine A0n SE6 (fun c=>m.rels.length-c.i) (fun c=>Abs.look c.H 0=some X/\Abs.look c.H 1=some Y/\2<=c.nx/\c.i<=m.rels.length) ⟨H0,2,0⟩ (fun _=>rfl) ⟨x0,y0,Nat.le_refl _,Nat.zero_le _⟩ ?_ rfl ?_
  ·exact A0d (by simp -implicitDefEqProofs [SE6])
  rintro⟨H,nx,i⟩ ⟨hx0,hy0,hn,hi⟩;simp only at hx0 hy0 hn hi;have Mx:=ldx hx0;have My:=ldy hy0;by_cases hlt:i<m.rels.length
  rotate_left
  ·refine A0a A0g ?_;simp -implicitDefEqProofs [SE6,Mx.l3,l2,hlt];exact Abs.Next.mk ⟨H,nx,0⟩ ⟨hx0,hy0⟩ (A0d (by simp -implicitDefEqProofs))
  obtain⟨c,hc1⟩:∃c,rl[i]?=some c:=⟨_,List.getElem?_eq_getElem (by omega)⟩
  obtain⟨d,hd1⟩:∃d,sl[i]?=some d:=⟨_,List.getElem?_eq_getElem (by omega)⟩
  have hcx:m.rels[i]?=some c.x:=by rw[<-hrm,List.getElem?_map,hc1];rfl
  have hdx:m.rels[i]?=some d.x:=by rw[<-krm,List.getElem?_map,hd1];rfl
  obtain⟨ta,hcs,hta⟩:=c.ok;obtain⟨ua,hds,hua⟩:=d.ok;have i1:=hr.iaddr hc1 .i64;have i2:=kr.iaddr hd1 .i64;rw[show eEC.z=3 from rfl]at i1 i2;rw[show eEC.enc c=c.cs from rfl,hcs]at i1;rw[show eEC.enc d=d.cs from rfl,hds]at i2
  obtain⟨x,hxe⟩:∃x,x=c.x:=⟨_,rfl⟩
  have hxd:d.x=x:=by rw[hcx]at hdx;injection hdx with h;rw[<-h,hxe]
  rw[<-hxe]at hcx hta i1;rw[hxd]at hua i2;have hal:=hs.args x (List.mem_of_getElem? hcx);have la:=hta.len;have ua':=hua.len;have w1:=C3b i (by have:=hs.rels;omega);have s1:∀a b d,A0x 3 ((nx,.cells tyE [a,b,d])::H) (.ptr nx 0) (.t (.ag [sv x.pred,iv x.label,ta]))=some ((nx,eRow x.pred x.label ta)::H):=fun a b d=>st3 nx a b d (sv x.pred) (iv x.label) ta tyE H (cd3 _ _ _)
  obtain⟨H1,hH1⟩:∃H1,H1=(nx,eRow x.pred x.label ta)::H:=⟨_,rfl⟩
  rw[<-hH1]at s1;have s2:∀a b d,A0x 3 ((nx+1,.cells tyE [a,b,d])::H1) (.ptr (nx+1) 0) (.t (.ag [sv x.pred,iv x.label,ua]))=some ((nx+1,eRow x.pred x.label ua)::H1):=fun a b d=>st3 (nx+1) a b d (sv x.pred) (iv x.label) ua tyE H1 (cd3 _ _ _)
  obtain⟨H2,hH2⟩:∃H2,H2=(nx+1,eRow x.pred x.label ua)::H1:=⟨_,rfl⟩
  rw[<-hH2]at s2
  have k1':∀c,c<nx->Abs.look H1 c=Abs.look H c:=fun c h=>by rw[hH1,look_cons,if_neg (by omega)]
  have k2':∀c,c<nx->Abs.look H2 c=Abs.look H c:=fun c h=>by rw[hH2,look_cons,if_neg (by omega),k1' c h]
  have Ny:=ldy (H:=H1) (by rw[k1' 1 (by omega)];exact hy0)
  have r1:Abs.look H2 nx=some (.cells tyE [.t (sv x.pred),.t (iv x.label),.t ta]):=by rw[hH2,look_cons,if_neg (by omega),hH1,look_cons,if_pos rfl]
  have r2:Abs.look H2 (nx+1)=some (.cells tyE [.t (sv x.pred),.t (iv x.label),.t ua]):=by rw[hH2,look_cons,if_pos rfl]
  have p1:=D2n r1;have p2:=D2n r2;refine A0a A0g ?_;simp -implicitDefEqProofs [SE6,Mx.l3,l2,hlt];refine A0q (fun c:EqD=>SE6 ⟨c.H,c.nx,i⟩) (fun c=>Abs.look c.H 0=some X/\Abs.look c.H 1=some Y/\2<=c.nx) (fun _=>rfl) ?_ ?_
  ·refine A0j ?_;refine A0a A0g ?_;simp -implicitDefEqProofs [Mx.l3,i1,l3_c,s1];refine A0a A0g ?_;simp -implicitDefEqProofs [Ny.l3,i2,l3_c,s2];refine A0a A0g ?_;simp -implicitDefEqProofs [p1.1,p1.2.1,p1.2.2,p2.1,p2.2.1,p2.2.2,la,ua'];refine A0a A0g ?_;simp -implicitDefEqProofs;refine A0j ?_;refine A0n (SE9 i nx H2) (fun j=>x.args.length-j) (fun j=>j<=x.args.length) 0 (fun _=>rfl) (Nat.zero_le _) ?_ rfl ?_
   ·exact A0d (by simp -implicitDefEqProofs [SE9])
   rintro j hj;by_cases hjl:j<x.args.length
   rotate_left
   ·refine A0a A0g ?_;simp -implicitDefEqProofs [SE9,p1.2.2,la,hjl];exact Abs.Next.mk ⟨H2,nx+2,0⟩ ⟨by show Abs.look H2 0=_;rw[k2' 0 (by omega)];exact hx0,by show Abs.look H2 1=_;rw[k2' 1 (by omega)];exact hy0,by show 2<=nx+2;omega⟩ (A0d (by simp -implicitDefEqProofs [SE6]))
   obtain⟨a,ha⟩:∃a,x.args[j]?=some a:=⟨_,List.getElem?_eq_getElem hjl⟩
   have j1:=hta.iaddr ha .i64;have j2:=hua.iaddr ha .i64;rw[show eAg.z=2 from rfl,show eAg.enc a=[sv a.role,iv a.var]from rfl]at j1 j2;have w2:=C3b j (by omega);have eq:=eqs_a a.role a.var;refine A0a A0g ?_;simp -implicitDefEqProofs [SE9,p1.2.2,la,hjl];refine A0a A0g ?_;simp -implicitDefEqProofs [p1.2.2,p2.2.2,j1,j2,A6j,eq];refine A0e A0g ?_;simp -implicitDefEqProofs [w2];exact Abs.Next.mk (j+1) ⟨hjl,by show x.args.length-(j+1)<x.args.length-j;omega⟩ (A0d (by simp -implicitDefEqProofs [SE9]))
  ·rintro⟨Hz,nz,_⟩ ⟨g1,g2,g3⟩;simp only at g1 g2 g3;refine A0e A0g ?_;simp -implicitDefEqProofs [SE6,w1];exact Abs.Next.mk ⟨Hz,nz,i+1⟩ ⟨⟨g1,g2,g3,hlt⟩,by show m.rels.length-(i+1)<m.rels.length-i;omega⟩ (A0d (by simp -implicitDefEqProofs [SE6]))
 rintro⟨H,nx,_⟩ ⟨hx0,hy0⟩;simp only at hx0 hy0;have Mx:=ldx hx0;have My:=ldy hy0;refine A0q (fun _:Unit=>⟨[(2,.ptr 0 0),(3,.ptr 1 0)],H,nx,142⟩) (fun _=>True) (fun _=>rfl) ?_ ?_
 ·refine A0a A0g ?_;simp -implicitDefEqProofs;refine A0j ?_;refine A0n (fun i=>SE10 ⟨H,nx,i⟩) (fun i=>m.cons.length-i) (fun i=>i<=m.cons.length) 0 (fun _=>rfl) (Nat.zero_le _) ?_ rfl ?_
  ·exact A0d (by simp -implicitDefEqProofs [SE10])
  rintro i hi;by_cases hlt:i<m.cons.length
  ·obtain⟨x,hx⟩:∃x,m.cons[i]?=some x:=⟨_,List.getElem?_eq_getElem hlt⟩
   have i1:=hc.iaddr hx .i64;have i2:=kc.iaddr hx .i64;rw[show eQq.z=2 from rfl,show eQq.enc x=[iv x.high,iv x.low]from rfl]at i1 i2;have w1:=C3b i (by have:=hs.cons;omega);have eq:=eqs_q x.high x.low;refine A0a A0g ?_;simp -implicitDefEqProofs [SE10,Mx.l4,l3,hlt];refine A0a A0g ?_;simp -implicitDefEqProofs [Mx.l4,My.l4,i1,i2,A6j,eq];refine A0e A0g ?_;simp -implicitDefEqProofs [w1];exact Abs.Next.mk (i+1) ⟨hlt,by show m.cons.length-(i+1)<m.cons.length-i;omega⟩ (A0d (by simp -implicitDefEqProofs [SE10]))
  ·refine A0a A0g ?_;simp -implicitDefEqProofs [SE10,Mx.l4,l3,hlt];exact Abs.Next.mk () trivial (A0d (by simp -implicitDefEqProofs))
 rintro _ _;refine A0e A0g ?_;simp -implicitDefEqProofs
end Go.Proofs.YtmgjopafgboljaaGreatDoor
