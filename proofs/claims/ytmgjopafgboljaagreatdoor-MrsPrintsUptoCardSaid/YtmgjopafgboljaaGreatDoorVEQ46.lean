/- Auxiliary facts. -/
import Derived.Test.YtmgjopafgboljaaGreatDoorVEQ45
import Derived.Test.YtmgjopafgboljaaGreatDoorVEQ40
import Derived.Test.YtmgjopafgboljaaGreatDoorVEQ26
import Derived.Test.YtmgjopafgboljaaGreatDoorVEQ48
import Derived.Test.YtmgjopafgboljaaGreatDoorVEQ53
import Derived.Test.YtmgjopafgboljaaGreatDoorVEQ57
import Derived.Test.YtmgjopafgboljaaGreatDoorVEQ51
import Derived.Test.YtmgjopafgboljaaGreatDoorVEQ58
import Derived.Test.YtmgjopafgboljaaGreatDoorVEQ59
import Derived.Test.YtmgjopafgboljaaGreatDoorVEQ52
set_option linter.unusedSimpArgs false
set_option maxRecDepth 100000
set_option maxHeartbeats 0
set_option linter.unusedVariables false
namespace Go.Proofs.YtmgjopafgboljaaGreatDoor
open Go Go.Abs
variable {q : Gl}
theorem hRDec:GOK Tryz.prog (G q) 95 gDec:=fun args r hr=>by
 unfold gDec at hr;split at hr
 ·split at hr
  ·rename_i h;injection hr with hr;subst hr;exact C8a _ h
  ·cases hr
 ·cases hr
noncomputable def gVa:List T->Option T
 | [.ag cs,.v (.int .i64 v)]=>open Classical in if h:∃m,IsMr m cs/\SmM m/\inR m.vars.length v/\(wM m v).length<=1000000000 then some (sv (ob (wM h.choose v)))else none
 | _=>none
theorem G2f {m:Mr} {cs:List T} {v:Int} (h:IsMr m cs) (hs:SmM m) (hv:inR m.vars.length v) (hl:(wM m v).length<=1000000000):gVa [.ag cs,.v (.int .i64 v)]=some (sv (ob (wM m v))):=by
 have he:∃m,IsMr m cs/\SmM m/\inR m.vars.length v/\(wM m v).length<=1000000000:=⟨m,h,hs,hv,hl⟩
 simp only[gVa];rw[dif_pos he,he.choose_spec.1.uniq h]
theorem hVa:GOK Tryz.prog (G q) 58 gVa:=fun args r hr=>by
 unfold gVa at hr;split at hr
 ·rename_i cs v;split at hr
  ·rename_i he;injection hr with hr;subst hr
   obtain⟨m,hm'⟩:∃m,m=he.choose:=⟨_,rfl⟩
   have hsp:=he.choose_spec;rw[<-hm']at hsp ⊢;obtain⟨hm,hs,hin,hw⟩:=hsp;clear hm';obtain⟨tv,tr,tc,rl,rfl,hv,hr,hrm,hc⟩:=hm
   obtain⟨X,hX⟩:∃X,X=mRow [iv m.top,iv m.index,tv,tr,tc]:=⟨_,rfl⟩
   have zx:=ldM (H:=[(0,X)]) (k:=0) (by rw[hX];rfl);have cd:=cd5 (iv m.top) (iv m.index) tv tr tc;have hs1:=hs.vars
   obtain⟨k,rfl⟩:∃k:Nat,v=(k:Int):=⟨v.toNat,by have:=hin.1;omega⟩
   have hkl:k<m.vars.length:=by have:=hin.2;omega
   have i1:=hv.iaddr (B5x hkl) .i64;have hz:eStr.z=1:=rfl;rw[hz,show eStr.enc (vS m.vars (k:Int))=[sv (vS m.vars (k:Int))]from rfl]at i1;have eD:gDec [iv (k:Int)]=_:=E9j (n:=(k:Int)) (by omega);have sa:=sadd (a:=vS m.vars (k:Int)) (b:=ob (Lib.itoa (k:Int))) (c:=ob (wM m (k:Int))) (by rw[A3o,A3o];rfl) (by rw[A3o];omega);have C:Ctx Tryz.prog (G q) _:=(A0s.cons (hRDec (q:=q)) .nil).ctx mixed;refine C3y.call rfl ?_;(conv in B3x=>cbv);refine A0a C ?_;simp -implicitDefEqProofs [cd];rw[show Row.cells 26 [.t (iv m.top),.t (iv m.index),.t tv,.t tr,.t tc]=X from hX.symm];refine A0e C ?_;simp -implicitDefEqProofs [zx.l2,i1,lp,eD,sa]
  ·cases hr
 ·cases hr
def sepT (sep:List UInt8) (L:List (List UInt8)) (i:Nat):List UInt8:=sepL sep (L.take i)
theorem D3i (sep x:List UInt8):∀{l:List (List UInt8)},l≠[]->sepL sep (l++[x])=sepL sep l++(sep++x)
 | [],h=>absurd rfl h
 | [a],_=>rfl
 | a::b::r,_=>by
  rw[List.cons_append,List.cons_append,A7s,<-List.cons_append,D3i sep x (l:=b::r) (by simp),A7s];simp
theorem C2x {sep:List UInt8} {L:List (List UInt8)} {i:Nat} {x:List UInt8} (h:L[i]?=some x) (A:List UInt8):A++sepT sep L (i+1)=(if i=0 then A++sepT sep L i else(A++sepT sep L i)++sep)++x:=by
 have hi:i<L.length:=(List.getElem?_eq_some_iff.1 h).1
 have e:L.take (i+1)=L.take i++[x]:=by rw[List.take_add_one,h];rfl
 unfold sepT;rw[e];by_cases h0:i=0
 ·subst h0;simp[sepL]
 ·rw[if_neg h0,D3i _ _ (by intro h;have:=congrArg List.length h;rw[List.length_take]at this;simp only[List.length_nil]at this;omega)];simp
theorem C8t {sep:List UInt8} {L:List (List UInt8)} {k n:Nat} (hk:∀x∈L,x.length<=k) (hs:sep.length<=2) (hn:L.length<=n) (i:Nat):(sepT sep L i).length<=n*(k+2):=by
 have h1:=B2y (sep:=sep) (k:=k) (l:=L.take i) fun x hx=>hk x (List.mem_of_mem_take hx);refine Nat.le_trans h1 (Nat.le_trans (Nat.mul_le_mul_left _ (by omega)) (Nat.mul_le_mul_right _ ?_));rw[List.length_take];omega
structure PrH where
 H:Heap
 nx:Nat
 i:Nat
def SRp (A:List UInt8) (L:List (List UInt8)) (a:PrH):A0c:=⟨[(4,.t (iv (a.i:Int))),(3,.t (.v (.string (ob (A++sepT [59,32] L a.i))))),(1,.ptr 0 0)],a.H,a.nx,112⟩
def SRq (A:List UInt8) (L:List (List UInt8)) (a:PrH):A0c:=⟨[(7,.t (iv (a.i:Int))),(3,.t (.v (.string (ob (A++sepT [59,32] L a.i))))),(1,.ptr 0 0)],a.H,a.nx,112⟩
def SRa (A:List UInt8) (L:List (List UInt8)) (i kx:Nat) (a:PrH):A0c:=⟨[(6,.t (iv (a.i:Int))),(5,.ptr kx 0),(4,.t (iv (i:Int))),(3,.t (.v (.string (ob (A++sepT [44,32] L a.i))))),(1,.ptr 0 0)],a.H,a.nx,112⟩
theorem D6o {m:Mr} {cs:List T} (hm:IsMr m cs) (hs:SmM m) (hL:A7q A0h m):A1d Tryz.prog (G q) 28 [.ag cs] (· = sv (ob (prtM m))):=by
 have Z:=szs hL hs;have ho:=hL.ok;have eV:∀v,inR m.vars.length v->gVa [.ag cs,.v (.int .i64 v)]=some (sv (ob (wM m v))):=fun v hv=>G2f hm hs hv (Nat.le_trans (Z.w v hv) (by omega));obtain⟨tv,tr,tc,rl,rfl,hv,hr,hrm,hc⟩:=hm
 obtain⟨X,hX⟩:∃X,X=mRow [iv m.top,iv m.index,tv,tr,tc]:=⟨_,rfl⟩
 have ld:∀{H:Heap},Abs.look H 0=some X->LdM (iv m.top) (iv m.index) tv tr tc H 0:=fun h=>ldM (by rw[h,hX]);have lr:=hr.len;have lc:=hc.len
 have hrl:rl.length=m.rels.length:=by rw[<-hrm,List.length_map]
 have hsr:=hs.rels;have hsc:=hs.cons;have cd:=cd5 (iv m.top) (iv m.index) tv tr tc;have C:Ctx Tryz.prog (G q) _:=(A0s.cons (hVa (q:=q)) .nil).ctx mixed
 obtain⟨R,hR⟩:∃R,R=prtM m:=⟨_,rfl⟩
 rw[<-hR]
 obtain⟨LR,hLR⟩:∃L,L=m.rels.map (prtE (wM m)):=⟨_,rfl⟩
 obtain⟨LC,hLC⟩:∃L,L=m.cons.map (prtQ (wM m)):=⟨_,rfl⟩
 have lLR:LR.length=m.rels.length:=by rw[hLR,List.length_map]
 have lLC:LC.length=m.cons.length:=by rw[hLC,List.length_map]
 have hw1:=Z.w _ ho.top;have hw2:=Z.w _ ho.index;have sR:∀i,(sepT [59,32] LR i).length<=16*(63000+2):=fun i=>C8t (k:=63000) (by rw[hLR];intro x hx;obtain⟨y,hy,rfl⟩:=List.mem_map.1 hx;exact Z.e y hy) (by simp) (by rw[lLR];exact hL.rels) i;have sC:∀i,(sepT [59,32] LC i).length<=16*(60+2):=fun i=>C8t (k:=60) (by rw[hLC];intro x hx;obtain⟨y,hy,rfl⟩:=List.mem_map.1 hx;exact Z.q y hy) (by simp) (by rw[lLC];exact hL.cons) i;obtain⟨S1,q1,l1,p1⟩:=A2t (wM m m.top) [32] (b:=⟨#[32]⟩) rfl (by simp only[List.length_singleton];omega);simp only[List.length_cons,List.length_nil]at l1;obtain⟨S2,q2,l2,p2⟩:=A2t S1 (wM m m.index) (b:=ob (wM m m.index)) rfl (by omega);obtain⟨P1,q3,l3,p3⟩:=A2t S2 [32,123] (b:=⟨#[32,123]⟩) rfl (by simp only[List.length_cons,List.length_nil];omega);simp only[List.length_cons,List.length_nil]at l3
 have hE:R=P1++sepT [59,32] LR LR.length++[125,32,123]++sepT [59,32] LC LC.length++[125]:=by
  unfold sepT;rw[hR,q3,q2,q1,List.take_length,List.take_length,hLR,hLC];unfold prtM prtW;simp
 refine D5u.call rfl ?_;(conv in C2e=>cbv);refine A0a C ?_;simp -implicitDefEqProofs [cd];rw[show Row.cells 26 [.t (iv m.top),.t (iv m.index),.t tv,.t tr,.t tc]=X from hX.symm];have z0:=ld (H:=[(0,X)]) rfl;have e1:=eV m.top ho.top;have e2:=eV m.index ho.index;refine A0a C ?_;simp -implicitDefEqProofs [z0.all,z0.l0,z0.l1,e1,e2,p1,p2,p3];refine A0q (fun a:PrH=>⟨[(3,.t (.v (.string (ob (P1++sepT [59,32] LR LR.length))))),(1,.ptr 0 0)],a.H,a.nx,112⟩) (fun a=>Abs.look a.H 0=some X/\0<a.nx) (fun _=>rfl) ?_ ?_
 ·refine A0a C ?_;simp -implicitDefEqProofs;refine A0j ?_;refine A0n (SRp P1 LR) (fun a=>m.rels.length-a.i) (fun a=>Abs.look a.H 0=some X/\0<a.nx/\a.i<=m.rels.length) ⟨[(0,X)],1,0⟩ (fun _=>rfl) ⟨rfl,by show 0<1;omega,Nat.zero_le _⟩ ?_ rfl ?_
  ·exact A0d (by simp -implicitDefEqProofs [SRp,sepT,sepL])
  rintro⟨H,nx,i⟩ ⟨h0,hnx,hi⟩;simp only at h0 hnx hi;have z:=ld h0;by_cases hlt:i<rl.length
  ·obtain⟨c,hc1⟩:∃c,rl[i]?=some c:=⟨_,List.getElem?_eq_getElem (by omega)⟩
   have hx:m.rels[i]?=some c.x:=by rw[<-hrm,List.getElem?_map,hc1];rfl
   have hxm:=List.mem_of_getElem? hx;obtain⟨ta,hcs,hta⟩:=c.ok;have la:=hta.len;have hal:=hs.args c.x hxm;have i1:=hr.iaddr hc1 .i64;have hz:eEC.z=3:=rfl;rw[hz,show eEC.enc c=c.cs from rfl,hcs]at i1
   obtain⟨x,hxe⟩:∃x,x=c.x:=⟨_,rfl⟩
   rw[<-hxe]at hx hxm hta la hal i1;have w1:IntKind.i64.wrap ((i:Int)+1)=((i+1:Nat):Int):=A0k (by omega) (by omega)
   have hgL:LR[i]?=some (prtE (wM m) x):=by rw[hLR,List.getElem?_map,hx];rfl
   have A4k:=C2x (sep:=[59,32]) hgL P1
   obtain⟨A,hA⟩:∃A,A=P1++sepT [59,32] LR i:=⟨_,rfl⟩
   have lA:A.length<=2000000:=by rw[hA,List.length_append];have:=sR i;omega
   rw[<-hA]at A4k;have s3:∀a b d,A0x 3 ((nx,.cells tyE [a,b,d])::H) (.ptr nx 0) (.t (.ag [sv x.pred,iv x.label,ta]))=some ((nx,eRow x.pred x.label ta)::H):=fun a b d=>st3 nx a b d (sv x.pred) (iv x.label) ta tyE H (cd3 _ _ _)
   obtain⟨H1,hH1⟩:∃H1,H1=(nx,eRow x.pred x.label ta)::H:=⟨_,rfl⟩
   rw[<-hH1]at s3
   have x1:Abs.look H1 nx=some (eRow x.pred x.label ta):=by rw[hH1,look_cons,if_pos rfl]
   have h01:Abs.look H1 0=some X:=by rw[hH1,look_cons,if_neg (by omega)];exact h0
   have ze1:=ldE x1;have z1:=ld h01;refine A0a C ?_;simp -implicitDefEqProofs [SRp,<-hA,z.l3,lr,hlt];refine A0q (fun a:PrH=>⟨[(4,.t (iv (i:Int))),(3,.t (.v (.string (ob (P1++sepT [59,32] LR (i+1)))))),(1,.ptr 0 0)],a.H,a.nx,112⟩) (fun a=>Abs.look a.H 0=some X/\0<a.nx) (fun _=>rfl) ?_ ?_
   ·refine A0j ?_;refine A0q (fun B:List UInt8=>⟨[(4,.t (iv (i:Int))),(3,.t (.v (.string (ob B)))),(1,.ptr 0 0)],H,nx,112⟩) (fun B=>B=if i=0 then A else A++[59,32]) (fun _=>rfl) ?_ ?_
    ·refine A0e C ?_;by_cases hi0:i=0
     ·subst hi0;simp -implicitDefEqProofs;exact Abs.Next.mk A rfl (A0d (by simp -implicitDefEqProofs))
     ·have hpos:0<i:=by omega
      obtain⟨B,qb,lb,pb⟩:=A2t A [59,32] (b:=⟨#[59,32]⟩) rfl (by simp only[List.length_cons,List.length_nil];omega);simp -implicitDefEqProofs [hpos,pb];exact Abs.Next.mk B (by rw[if_neg hi0];exact qb) (A0d (by simp -implicitDefEqProofs))
    rintro B hB;rw[<-hB]at A4k
    have lB:B.length<=2000002:=by rw[hB];split<;>(try rw[List.length_append,List.length_cons,List.length_singleton])<;>omega
    have gin:=ho.rel hxm (v:=x.label) (by simp[occE]);have hwl:=Z.w _ gin;have hp:=Z.p x hxm;have has:=Z.ags x hxm;have e3:=eV x.label gin;obtain⟨T1,r1,k1,u1⟩:=A2t B (wM m x.label) (b:=ob (wM m x.label)) rfl (by omega);obtain⟨T2,r2,k2,u2⟩:=A2t T1 [58] (b:=⟨#[58]⟩) rfl (by simp only[List.length_singleton];omega);simp only[List.length_cons,List.length_nil]at k2;obtain⟨T3,r3,k3,u3⟩:=A2t T2 (wb x.pred) (b:=x.pred) rfl (by omega);obtain⟨T4,r4,k4,u4⟩:=A2t T3 [40] (b:=⟨#[40]⟩) rfl (by simp only[List.length_singleton];omega);simp only[List.length_cons,List.length_nil]at k4
    obtain⟨LA,hLA⟩:∃L,L=x.args.map (prtA (wM m)):=⟨_,rfl⟩
    have lLA:LA.length=x.args.length:=by rw[hLA,List.length_map]
    have sA:∀i,(sepT [44,32] LA i).length<=1000*(60+2):=fun i=>C8t (k:=60) (by rw[hLA];intro y hy;obtain⟨g,hg,rfl⟩:=List.mem_map.1 hy;exact Z.a x hxm g hg) (by simp) (by rw[lLA];exact hal) i;refine A0a C ?_;simp -implicitDefEqProofs [z.l3,i1,l3_c,s3];refine A0a C ?_;simp -implicitDefEqProofs [z1.all,ze1.l0,ze1.l1,e3,u1,u2,u3,u4];refine A0q (fun a:PrH=>⟨[(4,.t (iv (i:Int))),(3,.t (.v (.string (ob (T4++sepT [44,32] LA LA.length))))),(1,.ptr 0 0)],a.H,a.nx,112⟩) (fun a=>Abs.look a.H 0=some X/\0<a.nx) (fun _=>rfl) ?_ ?_
    ·refine A0a C ?_;simp -implicitDefEqProofs;refine A0j ?_;refine A0n (SRa T4 LA i nx) (fun a=>x.args.length-a.i) (fun a=>a.H=H1/\a.nx=nx+1/\a.i<=x.args.length) ⟨H1,nx+1,0⟩ (fun _=>rfl) ⟨rfl,rfl,Nat.zero_le _⟩ ?_ rfl ?_
     ·exact A0d (by simp -implicitDefEqProofs [SRa,sepT,sepL])
     rintro⟨_,_,j⟩ ⟨e1',e2',hj⟩;simp only at e1' e2' hj;have e1':=e1'.symm;have e2':=e2'.symm;subst e1' e2';by_cases hjl:j<x.args.length
     ·obtain⟨g,hg⟩:∃g,x.args[j]?=some g:=⟨_,List.getElem?_eq_getElem hjl⟩
      have hgm:=List.mem_of_getElem? hg;have i2:=hta.iaddr hg .i64;have hz2:eAg.z=2:=rfl;rw[hz2,show eAg.enc g=[sv g.role,iv g.var]from rfl]at i2;have w2:IntKind.i64.wrap ((j:Int)+1)=((j+1:Nat):Int):=A0k (by omega) (by omega)
      have hgA:LA[j]?=some (prtA (wM m) g):=by rw[hLA,List.getElem?_map,hg];rfl
      have hst2:=C2x (sep:=[44,32]) hgA T4
      obtain⟨A2,hA2⟩:∃A,A=T4++sepT [44,32] LA j:=⟨_,rfl⟩
      have lA2:A2.length<=3000000:=by rw[hA2,List.length_append];have:=sA j;omega
      rw[<-hA2]at hst2;refine A0a C ?_;simp -implicitDefEqProofs [SRa,<-hA2,ze1.l2,la,hjl];refine A0q (fun D:List UInt8=>⟨[(6,.t (iv (j:Int))),(5,.ptr nx 0),(4,.t (iv (i:Int))),(3,.t (.v (.string (ob D)))),(1,.ptr 0 0)],H1,nx+1,112⟩) (fun D=>D=T4++sepT [44,32] LA (j+1)) (fun _=>rfl) ?_ ?_
      ·refine A0j ?_;refine A0q (fun D:List UInt8=>⟨[(6,.t (iv (j:Int))),(5,.ptr nx 0),(4,.t (iv (i:Int))),(3,.t (.v (.string (ob D)))),(1,.ptr 0 0)],H1,nx+1,112⟩) (fun D=>D=if j=0 then A2 else A2++[44,32]) (fun _=>rfl) ?_ ?_
       ·refine A0e C ?_;by_cases hj0:j=0
        ·subst hj0;simp -implicitDefEqProofs;exact Abs.Next.mk A2 rfl (A0d (by simp -implicitDefEqProofs))
        ·have hpos:0<j:=by omega
         obtain⟨D,qb,lb,pb⟩:=A2t A2 [44,32] (b:=⟨#[44,32]⟩) rfl (by simp only[List.length_cons,List.length_nil];omega);simp -implicitDefEqProofs [hpos,pb];exact Abs.Next.mk D (by rw[if_neg hj0];exact qb) (A0d (by simp -implicitDefEqProofs))
       rintro D hD;rw[<-hD]at hst2
       have lD:D.length<=3000002:=by rw[hD];split<;>(try rw[List.length_append,List.length_cons,List.length_singleton])<;>omega
       have gin2:=ho.rel hxm (v:=g.var) (by simp only[occE,List.mem_cons,List.mem_map];exact .inr ⟨g,hgm,rfl⟩);have hwg:=Z.w _ gin2;have e4:=eV g.var gin2;have hsz:=Z.a x hxm g hgm;unfold prtA at hsz;rw[List.length_append,List.length_cons]at hsz;obtain⟨V1,y1,n1,v1⟩:=A2t D (wb g.role) (b:=g.role) rfl (by omega);obtain⟨V2,y2,n2,v2⟩:=A2t V1 [32] (b:=⟨#[32]⟩) rfl (by simp only[List.length_singleton];omega);simp only[List.length_cons,List.length_nil]at n2;obtain⟨V3,y3,n3,v3⟩:=A2t V2 (wM m g.var) (b:=ob (wM m g.var)) rfl (by omega)
       have eV3:V3=T4++sepT [44,32] LA (j+1):=by rw[hst2,y3,y2,y1];unfold prtA;simp
       refine A0e C ?_;simp -implicitDefEqProofs [z1.all,ze1.l2,i2,lp,e4,v1,v2,v3];exact Abs.Next.mk V3 eV3 (A0d (by simp -implicitDefEqProofs))
      ·rintro D rfl;refine A0e C ?_;simp -implicitDefEqProofs [w2];exact Abs.Next.mk ⟨H1,nx+1,j+1⟩ ⟨⟨rfl,rfl,hjl⟩,by show x.args.length-(j+1)<x.args.length-j;omega⟩ (A0d (by simp -implicitDefEqProofs [SRa]))
     ·have ej:j=LA.length:=by omega
      subst ej;refine A0e C ?_;simp -implicitDefEqProofs [SRa,ze1.l2,la,hjl];exact Abs.Next.mk ⟨H1,nx+1,0⟩ ⟨h01,by show 0<nx+1;omega⟩ (A0d (by simp -implicitDefEqProofs))
    ·rintro⟨Ha,na,_⟩ ⟨h0',hn'⟩;have sl:=sA LA.length;obtain⟨T5,r5,k5,u5⟩:=A2t (T4++sepT [44,32] LA LA.length) [41] (b:=⟨#[41]⟩) rfl (by simp only[List.length_singleton,List.length_append];omega)
     have e5:T5=P1++sepT [59,32] LR (i+1):=by
      rw[A4k,r5,r4,r3,r2,r1];unfold sepT prtE;rw[List.take_length,hLA];simp
     rw[<-e5]
     obtain⟨T6,hT6⟩:∃T,T=T4++sepT [44,32] LA LA.length:=⟨_,rfl⟩
     rw[<-hT6]at u5 ⊢;refine A0e C ?_;simp -implicitDefEqProofs [u5];exact Abs.Next.mk ⟨Ha,na,0⟩ ⟨h0',hn'⟩ (A0d (by simp -implicitDefEqProofs))
   ·rintro⟨Ha,na,_⟩ ⟨h0',hn'⟩;refine A0e C ?_;simp -implicitDefEqProofs [w1];exact Abs.Next.mk ⟨Ha,na,i+1⟩ ⟨⟨h0',hn',by show i+1<=_;omega⟩,by show m.rels.length-(i+1)<m.rels.length-i;omega⟩ (A0d (by simp -implicitDefEqProofs [SRp]))
  ·have ei:i=LR.length:=by omega
   subst ei;refine A0e C ?_;simp -implicitDefEqProofs [SRp,z.l3,lr,hlt];exact Abs.Next.mk ⟨H,nx,0⟩ ⟨h0,hnx⟩ (A0d (by simp -implicitDefEqProofs))
 rintro⟨H,nx,_⟩ ⟨h0,hnx⟩;simp only at h0 hnx;have z:=ld h0;have sl:=sR LR.length
 obtain⟨A1,hA1⟩:∃A,A=P1++sepT [59,32] LR LR.length:=⟨_,rfl⟩
 rw[<-hA1]at hE ⊢
 have lA1:A1.length<=2000000:=by rw[hA1,List.length_append];omega
 obtain⟨P2,q4,l4,p4⟩:=A2t A1 [125,32,123] (b:=⟨#[125,32,123]⟩) rfl (by simp only[List.length_cons,List.length_nil];omega);simp only[List.length_cons,List.length_nil]at l4;rw[<-q4]at hE;refine A0a C ?_;simp -implicitDefEqProofs [p4];refine A0q (α:=Unit) (fun _=>⟨[(3,.t (.v (.string (ob (P2++sepT [59,32] LC LC.length)))))],H,nx,112⟩) (fun _=>True) (fun _=>rfl) ?_ ?_
 ·refine A0a C ?_;simp -implicitDefEqProofs;refine A0j ?_;refine A0n (SRq P2 LC) (fun a=>m.cons.length-a.i) (fun a=>a.H=H/\a.nx=nx/\a.i<=m.cons.length) ⟨H,nx,0⟩ (fun _=>rfl) ⟨rfl,rfl,Nat.zero_le _⟩ ?_ rfl ?_
  ·exact A0d (by simp -implicitDefEqProofs [SRq,sepT,sepL])
  rintro⟨_,_,i⟩ ⟨e1',e2',hi⟩;simp only at e1' e2' hi;have e1':=e1'.symm;have e2':=e2'.symm;subst e1' e2';by_cases hlt:i<m.cons.length
  ·obtain⟨c,hc1⟩:∃c,m.cons[i]?=some c:=⟨_,List.getElem?_eq_getElem (by omega)⟩
   have hcm:=List.mem_of_getElem? hc1;have i1:=hc.iaddr hc1 .i64;have hz:eQq.z=2:=rfl;rw[hz,show eQq.enc c=[iv c.high,iv c.low]from rfl]at i1;have w1:IntKind.i64.wrap ((i:Int)+1)=((i+1:Nat):Int):=A0k (by omega) (by omega)
   have hgL:LC[i]?=some (prtQ (wM m) c):=by rw[hLC,List.getElem?_map,hc1];rfl
   have A4k:=C2x (sep:=[59,32]) hgL P2
   obtain⟨A,hA⟩:∃A,A=P2++sepT [59,32] LC i:=⟨_,rfl⟩
   have lA:A.length<=3000000:=by rw[hA,List.length_append];have:=sC i;omega
   rw[<-hA]at A4k;refine A0a C ?_;simp -implicitDefEqProofs [SRq,<-hA,z.l4,lc,hlt];refine A0q (fun D:List UInt8=>⟨[(7,.t (iv (i:Int))),(3,.t (.v (.string (ob D)))),(1,.ptr 0 0)],H,nx,112⟩) (fun D=>D=P2++sepT [59,32] LC (i+1)) (fun _=>rfl) ?_ ?_
   ·refine A0j ?_;refine A0q (fun B:List UInt8=>⟨[(7,.t (iv (i:Int))),(3,.t (.v (.string (ob B)))),(1,.ptr 0 0)],H,nx,112⟩) (fun B=>B=if i=0 then A else A++[59,32]) (fun _=>rfl) ?_ ?_
    ·refine A0e C ?_;by_cases hi0:i=0
     ·subst hi0;simp -implicitDefEqProofs;exact Abs.Next.mk A rfl (A0d (by simp -implicitDefEqProofs))
     ·have hpos:0<i:=by omega
      obtain⟨B,qb,lb,pb⟩:=A2t A [59,32] (b:=⟨#[59,32]⟩) rfl (by simp only[List.length_cons,List.length_nil];omega);simp -implicitDefEqProofs [hpos,pb];exact Abs.Next.mk B (by rw[if_neg hi0];exact qb) (A0d (by simp -implicitDefEqProofs))
    rintro B hB;rw[<-hB]at A4k
    have lB:B.length<=3000002:=by rw[hB];split<;>(try rw[List.length_append,List.length_cons,List.length_singleton])<;>omega
    have in1:=ho.con hcm (v:=c.high) (by simp[occC]);have in2:=ho.con hcm (v:=c.low) (by simp[occC]);have hh:=Z.w _ in1;have hl:=Z.w _ in2;have e3:=eV c.high in1;have e4:=eV c.low in2;obtain⟨T1,r1,k1,u1⟩:=A2t B (wM m c.high) (b:=ob (wM m c.high)) rfl (by omega);obtain⟨T2,r2,k2,u2⟩:=A2t T1 [32,113,101,113,32] (b:=⟨#[32,113,101,113,32]⟩) rfl (by simp only[List.length_cons,List.length_nil];omega);simp only[List.length_cons,List.length_nil]at k2;obtain⟨T3,r3,k3,u3⟩:=A2t T2 (wM m c.low) (b:=ob (wM m c.low)) rfl (by omega)
    have eT:T3=P2++sepT [59,32] LC (i+1):=by rw[A4k,r3,r2,r1];unfold prtQ;simp
    refine A0e C ?_;simp -implicitDefEqProofs [z.all,z.l4,i1,lp,e3,e4,u1,u2,u3];exact Abs.Next.mk T3 eT (A0d (by simp -implicitDefEqProofs))
   ·rintro D rfl;refine A0e C ?_;simp -implicitDefEqProofs [w1];exact Abs.Next.mk ⟨H,nx,i+1⟩ ⟨⟨rfl,rfl,hlt⟩,by show m.cons.length-(i+1)<m.cons.length-i;omega⟩ (A0d (by simp -implicitDefEqProofs [SRq]))
  ·have ei:i=LC.length:=by omega
   subst ei;refine A0e C ?_;simp -implicitDefEqProofs [SRq,z.l4,lc,hlt];exact Abs.Next.mk () trivial (A0d (by simp -implicitDefEqProofs))
 rintro _ _;have sl2:=sC LC.length
 obtain⟨A2,hA2⟩:∃A,A=P2++sepT [59,32] LC LC.length:=⟨_,rfl⟩
 rw[<-hA2]at hE ⊢
 have lA2:A2.length<=3000000:=by rw[hA2,List.length_append];omega
 obtain⟨P3,q5,l5,p5⟩:=A2t A2 [125] (b:=⟨#[125]⟩) rfl (by simp only[List.length_singleton];omega);rw[hE,<-q5];refine A0e C ?_;simp -implicitDefEqProofs [p5]
noncomputable def B1w:A0p:=cm Tryz.f6 33
theorem C2y {q:Gl}:FnOK Tryz.prog (G q) 6 1 33 B1w [(.tmp 2)]:=fk Tryz.func6 (by kernel_rfl) (by kernel_rfl)
theorem C8u (sep:List UInt8) {b:Nat}:∀{l:List (List UInt8)},(∀y∈l,y.length<=b)->(sepL sep l).length<=l.length*(b+sep.length)
 | [],_=>Nat.zero_le _
 | [x],h=>by
  have:=h x (by simp);show x.length<=1*_;omega
 | x::z::r,h=>by
  have h1:=h x (by simp);have h2:=C8u sep (l:=z::r) fun y hy=>h y (List.mem_cons_of_mem _ hy);rw[A7s,List.length_append,List.length_append,List.length_cons,Nat.succ_mul];omega
theorem B9y (sep:List UInt8):∀{l:List (List UInt8)},(∀y∈l,1<=y.length)->l.length<=(sepL sep l).length
 | [],_=>Nat.le_refl _
 | [x],h=>h x (by simp)
 | x::z::r,h=>by
  have h1:=h x (by simp);have h2:=B9y sep (l:=z::r) fun y hy=>h y (List.mem_cons_of_mem _ hy);rw[A7s,List.length_append,List.length_append,List.length_cons];omega
section
variable {m : Mr} (hL : A7q A0h m) (h10 : ∀ x ∈ m.rels, x.args.length <= 10)
include hL
theorem E4m {x:Int} (hx:x∈occ m):(wM m x).length<=22:=by
 have hr:=hL.ok x hx;have hv:=hL.vars;have h1:=hr.1;have h2:=hr.2;obtain⟨c,hc,_⟩:=B1v (hL.sorts (vS m.vars x) (by unfold vS;exact A7f _ (by omega)));have h3:=Lib.itoa_length_le x (by omega) (by omega);unfold wM;rw[hc,A3o,List.length_append,List.length_singleton];omega
include h10
theorem F8p {x:Ep} (hx:x∈m.rels):(prtE (wM m) x).length<=640:=by
 have hE:=A9k (hL.preds x hx);have hp:=((A7p false x.pred).1 hE.1).2.1;have hl:=E4m hL (x:=x.label) (by simp only[occ,List.mem_cons,List.mem_append,List.mem_flatMap];exact .inr (.inr (.inl ⟨x,hx,by simp[occE]⟩)))
 have ha:∀y∈x.args.map (prtA (wM m)),y.length<=55:=fun y hy=>by
  obtain⟨a,ha,rfl⟩:=List.mem_map.1 hy;have h1:=((A7p true a.role).1 (hE.2 a ha)).2.1;have h2:=E4m hL (x:=a.var) (by simp only[occ,List.mem_cons,List.mem_append,List.mem_flatMap];exact .inr (.inr (.inl ⟨x,hx,by simp only[occE,List.mem_cons,List.mem_map];exact .inr ⟨a,ha,rfl⟩⟩)));rw[<-A2y]at h1;unfold prtA;rw[List.length_append,List.length_cons];omega
 have hs:=C8u [44,32] ha;have:=h10 x hx;rw[<-A2y]at hp;rw[List.length_map]at hs;have:x.args.length*(55+2)<=10*57:=Nat.mul_le_mul_right 57 this;unfold prtE;simp only[List.length_append,List.length_cons,List.length_nil];have e2:([44,32]:List UInt8).length=2:=rfl;rw[e2]at hs;omega
theorem C6b:(prtM m).length<=20000/\m.rels.length<=(prtM m).length/\m.cons.length<=(prtM m).length/\∀x∈m.rels,x.args.length<=(prtM m).length:=by
 have ht:=E4m hL (x:=m.top) (by simp[occ]);have hi:=E4m hL (x:=m.index) (by simp[occ])
 have hr:∀y∈m.rels.map (prtE (wM m)),y.length<=640:=fun y hy=>by
  obtain⟨x,hx,rfl⟩:=List.mem_map.1 hy;exact F8p hL h10 hx
 have hc:∀y∈m.cons.map (prtQ (wM m)),y.length<=49:=fun y hy=>by
  obtain⟨c,hc,rfl⟩:=List.mem_map.1 hy;have h1:=E4m hL (x:=c.high) (by simp only[occ,List.mem_cons,List.mem_append,List.mem_flatMap];exact .inr (.inr (.inr ⟨c,hc,by simp[occC]⟩)));have h2:=E4m hL (x:=c.low) (by simp only[occ,List.mem_cons,List.mem_append,List.mem_flatMap];exact .inr (.inr (.inr ⟨c,hc,by simp[occC]⟩)));unfold prtQ;simp only[List.length_append,List.length_cons,List.length_nil];omega
 have sr:=C8u [59,32] hr;have sc:=C8u [59,32] hc
 have cr:=B9y [59,32] (l:=m.rels.map (prtE (wM m))) fun y hy=>by
  obtain⟨x,hx,rfl⟩:=List.mem_map.1 hy;unfold prtE;simp only[List.length_append,List.length_cons];omega
 have cc:=B9y [59,32] (l:=m.cons.map (prtQ (wM m))) fun y hy=>by
  obtain⟨x,hx,rfl⟩:=List.mem_map.1 hy;unfold prtQ;simp only[List.length_append,List.length_cons];omega
 rw[List.length_map]at sr sc cr cc;have e2:([59,32]:List UInt8).length=2:=rfl;rw[e2]at sr sc;have b1:m.rels.length*(640+2)<=16*642:=Nat.mul_le_mul_right 642 hL.rels;have b2:m.cons.length*(49+2)<=16*51:=Nat.mul_le_mul_right 51 hL.cons
 have e:(prtM m).length=(wM m m.top).length+((wM m m.index).length+((sepL [59,32] (m.rels.map (prtE (wM m)))).length+((sepL [59,32] (m.cons.map (prtQ (wM m)))).length+1+3))+2)+1:=by
  unfold prtM prtW;simp only[List.length_append,List.length_cons,List.length_nil];omega
 refine⟨by omega,by omega,by omega,fun x hx=>?_⟩;have h1:=F1b (w:=wM m) hx
 have h2:=B9y [44,32] (l:=x.args.map (prtA (wM m))) fun y hy=>by
  obtain⟨a,ha,rfl⟩:=List.mem_map.1 hy;unfold prtA;simp only[List.length_append,List.length_cons];omega
 rw[List.length_map]at h2
 have h3:(sepL [44,32] (x.args.map (prtA (wM m)))).length<=(prtE (wM m) x).length:=by
  unfold prtE;simp only[List.length_append,List.length_cons];omega
 have:(prtM m).length=(prtW (wM m) m).length:=rfl;omega
end
theorem F8q {m:Mr} (h:A3c A0h m=0) (h10:∀x∈m.rels,x.args.length<=10):parM (prtM m) = .ok m:=by
 obtain⟨h1,h2,h3,h4⟩:=C6b (A5t.1 h).1 h10;exact F3n h (by omega) h4 h2 h3
theorem G2g {s:ByteArray} {m:Mr} (h:parM (wb s) = .ok m) (hm:SmM m):SmP s:=fun raw l hf=>by
 rw[<-E1g h hf];exact hm
section
variable {m : Mr} {cs : List T}
theorem E4n (h:InM m cs):A1d Tryz.prog (G q) 6 [.ag cs] (· = bv true):=by
 have hV:=A4d (B7w (q:=q) h (most:=16) (by omega));have e1:=A1i [.ag cs,iv 16] (bv (valB m 16));have e0:=A1i [] (bv true);have cd:=cdM h
 obtain⟨X,hX⟩:∃X,X=mRow cs:=⟨_,rfl⟩
 have la:=allM h (H:=[(0,X)]) (k:=0) (by rw[hX];rfl);refine C2y.call rfl ?_;(conv in B1w=>cbv);have C:Ctx Tryz.prog (G q) _:=(A0s.cons hV (.cons (hEx (q:=q)) .nil)).ctx mixed;refine A0a C ?_;simp -implicitDefEqProofs [cd];rw[show Row.cells tyMr (cs.map .t)=X from hX.symm]
 cases hl:valB m 16 with
 | false=>
  rw[hl]at e1;refine A0a C ?_;simp -implicitDefEqProofs [la,hl,e1,e0]
 | true=>
  rw[hl]at e1;obtain⟨hli,hck⟩:=C9g hl;have sm:=h.sm hli (by omega);have lo:=(A5t.1 hck).1;have h10:=(B6l hli).2.2.2;have hpp:=F8q hck h10
  obtain⟨B,hB⟩:∃B,B=ob (prtM m):=⟨_,rfl⟩
  have hBs:wb B=prtM m:=by rw[hB,A3o]
  have hBl:B.size<=20000:=by rw[<-A2y,hBs];exact(C6b lo h10).1
  have hBp:parM (wb B) = .ok m:=by rw[hBs];exact hpp
  have hP:=A4d (B4m (q:=q) h.is sm lo);have hQ:=A4d (D6o (q:=q) h.is sm lo);have hA:=A4d (B4o (q:=q) (s:=B) (by omega) (G2g hBp sm));have hE:=A4d (B0f (q:=q) (C0a m) h.is sm);rw[<-hB]at hP hQ;rw[hBp]at hA;rw[show parT (.ok m)=T.tu [.ag (outC m),iv 0]from rfl]at hA
  obtain⟨co,hco⟩:∃co,co=outC m:=⟨_,rfl⟩
  have h5:co.length=5:=by rw[hco];rfl
  rw[<-hco]at hA hE;have g1:=A1i [.ag cs] (sv B);have g2:=A1i [sv B] (T.tu [.ag co,iv 0]);have g3:=A1i [.ag co,.ag cs] (bv true);have s1:=sM h5;have lb:=lM5 h5 (H:=[(1,mRow co),(0,X)]) (k:=1) rfl;have la2:=allM h (H:=[(1,mRow co),(0,X)]) (k:=0) (by rw[hX];rfl);have C1:Ctx Tryz.prog (G q) _:=(A0s.cons hP (.cons hQ (.cons hA (.cons hE (.cons (hEx (q:=q)) .nil))))).ctx mixed;refine A0a C ?_;simp -implicitDefEqProofs [la,hl,e1];refine A0a C1 ?_;simp -implicitDefEqProofs [la,g1];refine A0a C1 ?_;simp -implicitDefEqProofs [g2,s1];refine MC.sub (s':=⟨[(5,.t (iv 0)),(4,.ptr 1 0),(3,.t (sv B)),(1,.ptr 0 0)],[(1,mRow co),(0,X)],2,33⟩) (A0d (by simp -implicitDefEqProofs)) rfl ?_;refine A0e C1 ?_;simp -implicitDefEqProofs [la2,lb,g1,g3,e0]
end
end Go.Proofs.YtmgjopafgboljaaGreatDoor
