/- Auxiliary facts. -/
import Derived.Test.YtmgjopafgboljaaGreatDoorVEQ61
import Derived.Test.YtmgjopafgboljaaGreatDoorVEQ58
import Derived.Test.YtmgjopafgboljaaGreatDoorVEQ59
import Derived.Test.YtmgjopafgboljaaGreatDoorVEQ50
import Derived.Test.YtmgjopafgboljaaGreatDoorVEQ65
import Derived.Test.YtmgjopafgboljaaGreatDoorVEQ68
set_option linter.unusedSimpArgs false
set_option maxRecDepth 100000
set_option maxHeartbeats 0
set_option linter.unusedVariables false
namespace Go.Proofs.YtmgjopafgboljaaGreatDoor
open Go Go.Abs Go.ChangeShapes Go.WideShapes Go.ChangeAt Go.RowKit
theorem u8_ok {W:World} {base:Nat} {v:Value} (h:Value.okWide Tryz.prog W .any base 5 v):∃n:Nat,v = .int .u8 (n:Int)/\n<256:=by
 obtain⟨n,rfl⟩:=okWide_int Tryz.underlying5 h;unfold Value.okWide at h;have hu:=Tryz.underlying5;unfold Cell.okWide Cell.ok at h;generalize Tryz.prog.underlying 5=d at h hu;subst hu
 have e1:IntKind.u8.max=255:=by decide
 have e2:IntKind.u8.min=0:=by decide
 have h':IntKind.u8=IntKind.u8/\IntKind.u8.has n:=h;have h2:=h'.2;unfold IntKind.has at h2;rw[e1,e2]at h2
 have h3:0<=n/\n<=255:=by simpa using h2
 exact⟨n.toNat,by rw[Int.toNat_of_nonneg h3.1],by omega⟩
theorem F9s {W:World} {base:Nat} {v:Value} (h:Value.okWide Tryz.prog W .any base 4 v):∃b,v = .bool b:=okWide_bool Tryz.underlying4 h
open Go Go.Abs
variable {q : Gl}
def reF (n b:Nat) (rev:Bool) (i:Nat):Nat:=if rev then n-1-(i+b)%n else(i+b)%n
theorem E1h {n b:Nat} {rev:Bool} {i:Nat} (h:i<n):reF n b rev i<n:=by
 have:=Nat.mod_lt (i+b) (show n>0 by omega);unfold reF;split<;>omega
theorem F1j {n b i j:Nat} (hi:i<n) (hj:j<n) (h:(i+b)%n=(j+b)%n):i=j:=by
 rcases Nat.le_total i j with hle | hle
 ·have:=Nat.sub_mod_eq_zero_of_mod_eq h.symm;rw[show j+b-(i+b)=j-i by omega,Nat.mod_eq_of_lt (by omega)]at this;omega
 ·have:=Nat.sub_mod_eq_zero_of_mod_eq h;rw[show i+b-(j+b)=i-j by omega,Nat.mod_eq_of_lt (by omega)]at this;omega
theorem F9t {n b:Nat} {rev:Bool} {i j:Nat} (hi:i<n) (hj:j<n) (h:reF n b rev i=reF n b rev j):i=j:=by
 have h1:=Nat.mod_lt (i+b) (show n>0 by omega);have h2:=Nat.mod_lt (j+b) (show n>0 by omega);unfold reF at h;split at h
 ·exact F1j (b:=b) hi hj (by omega)
 ·exact F1j (b:=b) hi hj h
def reL {α:Type} (l:List α) (b:Nat) (rev:Bool) (k:Nat):List α:=(List.range k).filterMap fun i=>l[reF l.length b rev i]?
theorem C9h {α:Type} {l:List α} {b:Nat} {rev:Bool} {k:Nat} {x:α} (h:l[reF l.length b rev k]?=some x):reL l b rev (k+1)=reL l b rev k++[x]:=by
 unfold reL;rw[List.range_succ,List.filterMap_append];simp[h]
theorem D7a {α:Type} (l:List α) (b:Nat) (rev:Bool):∀k,k<=l.length->(reL l b rev k).length=k
 | 0,_=>rfl
 | k+1,h=>by
  obtain⟨x,hx⟩:∃x,l[reF l.length b rev k]?=some x:=⟨_,List.getElem?_eq_getElem (E1h (by omega))⟩
  rw[C9h hx,List.length_append,D7a l b rev k (by omega)];rfl
theorem E1i {α:Type} (l:List α) (b:Nat) (rev:Bool):(reL l b rev l.length).Perm l:=by
 have hp:((List.range l.length).map (reF l.length b rev)).Perm (List.range l.length):=A8e
  (A4q List.nodup_range fun i hi j hj e=>F9t (List.mem_range.1 hi) (List.mem_range.1 hj) e)
  (fun x hx=>by
   obtain⟨i,hi,rfl⟩:=List.mem_map.1 hx
   exact List.mem_range.2 (E1h (List.mem_range.1 hi))) (by rw[List.length_map];exact Nat.le_refl _)
 have e1:reL l b rev l.length=((List.range l.length).map (reF l.length b rev)).filterMap fun i=>l[i]?:=by
  unfold reL;rw[List.filterMap_map];rfl
 have e2:(List.range l.length).filterMap (fun i=>l[i]?)=l:=by
  have key:∀k,k<=l.length->(List.range k).filterMap (fun i=>l[i]?)=l.take k:=fun k=>by
   induction k with
   | zero=>intro _;rfl
   | succ k ih=>
    intro h;rw[List.range_succ,List.filterMap_append,ih (by omega),List.take_add_one,List.getElem?_eq_getElem (by omega)];simp[List.getElem?_eq_getElem (show k<l.length by omega)]
  rw[key _ (Nat.le_refl _),List.take_length]
 rw[e1];exact(hp.filterMap _).trans (by rw[e2])
theorem F9u {α β:Type} (f:α->β) (l:List α) (b:Nat) (rev:Bool) (k:Nat):(reL l b rev k).map f=reL (l.map f) b rev k:=by
 unfold reL;rw[List.map_filterMap,List.length_map];congr 1;funext i;rw[List.getElem?_map]
def reM (m:Mr) (b:Nat) (rev:Bool):Mr:=⟨m.top,m.index,m.vars,reL m.rels b rev m.rels.length,reL m.cons b rev m.cons.length⟩
structure RoR (X:Row) (t i:Int) (ts:T) (RL:List EC) (CL:List Qq) (H:Heap) (nx br bc:Nat):Prop where
 x:Abs.look H 0=some X
 z:Abs.look H 1=some A9p
 ob:Abs.look H 2=some (C3d t i ts (rowP eEC br RL) (rowP eQq bc CL))
 rr:A0z eEC tyEp H br RL
 rc:A0z eQq tyQe H bc CL
 r1:2<br
 r2:br<nx
 c1:2<bc
 c2:bc<nx
 ne:br≠bc
section
variable {X : Row} {t i : Int} {ts : T} {RL RL' : List EC} {CL CL' : List Qq} {H H' : Heap} {nx nx' br bc br' bc' : Nat}
theorem RoR.put (h:RoR X t i ts RL CL H nx br bc) (hk:∀c,c<nx->c≠2->c≠br->c≠bc->Abs.look H' c=Abs.look H c) (ho:Abs.look H' 2=some (C3d t i ts (rowP eEC br' RL') (rowP eQq bc' CL')))
  (hr:A0z eEC tyEp H' br' RL') (hc:A0z eQq tyQe H' bc' CL') (r1:2<br') (r2:br'<nx') (c1:2<bc') (c2:bc'<nx') (ne:br'≠bc'):RoR X t i ts RL' CL' H' nx' br' bc':=by
 have a:=h.r1;have b:=h.r2;have c:=h.c1;exact⟨by rw[hk 0 (by omega) (by omega) (by omega) (by omega)];exact h.x,by rw[hk 1 (by omega) (by omega) (by omega) (by omega)];exact h.z,ho,hr,hc,r1,r2,c1,c2,ne⟩
end
structure RoA where
 H:Heap
 nx:Nat
 br:Nat
 bc:Nat
 i:Nat
def SRoa (b n:Nat) (rev:Bool) (a:RoA):A0c:=⟨[(22,.t (iv (a.i:Int))),(21,.t (iv (n:Int))),(7,.ptr 2 0),(6,.ptr 1 0),(3,.ptr 0 0),(2,.t (bv rev)),(1,.t (.v (.int .u8 (b:Int))))],a.H,a.nx,84⟩
def SRob (b n:Nat) (rev:Bool) (a:RoA):A0c:=⟨[(54,.t (iv (a.i:Int))),(53,.t (iv (n:Int))),(7,.ptr 2 0),(6,.ptr 1 0),(3,.ptr 0 0),(2,.t (bv rev)),(1,.t (.v (.int .u8 (b:Int))))],a.H,a.nx,84⟩
def SRoz (b:Nat) (rev:Bool) (a:RoA):A0c:=⟨[(7,.ptr 2 0),(6,.ptr 1 0),(3,.ptr 0 0),(2,.t (bv rev)),(1,.t (.v (.int .u8 (b:Int))))],a.H,a.nx,84⟩
def reC (m:Mr) (tv:T) (rl:List EC) (b:Nat) (rev:Bool):List T:=[iv m.top,iv m.index,tv,A1a eEC (reL rl b rev rl.length),A1a eQq (reL m.cons b rev m.cons.length)]
theorem bd_ro (Φ:A0u) (H:Heap) (nx:Nat) (a b:Int) (t:T) (ht:A1g (.t t)=some [.t t]):A0i Φ H nx (.build [(0,1),(1,1),(2,1),(3,1),(4,1)] [.int .i64 0,.int .i64 0,.slice none 0 0,.slice none 0 0,.slice none 0 0] [0,1,2]) [.t (iv a),.t (iv b),.t t]=some (.t (.ag [iv a,iv b,t,nilS,nilS]),H,nx):=by
 have h1:A1g (.t (iv a))=some [.t (iv a)]:=rfl;have h2:A1g (.t (iv b))=some [.t (iv b)]:=rfl;simp[A0i,B0w,h1,h2,ht,A2m,agOf,allT]
theorem D3r {m:Mr} {tv tr tc:T} {rl:List EC} (hv:IsS eStr tv m.vars) (hr:IsS eEC tr rl) (hrm:rl.map EC.x=m.rels) (hc:IsS eQq tc m.cons) (b:Nat) (hb:b<256) (rev:Bool) (h1:m.rels.length<=1000) (h2:m.cons.length<=1000) :
  A1d Tryz.prog (G q) 30 [.ag [iv m.top,iv m.index,tv,tr,tc],.v (.int .u8 (b:Int)),bv rev] (· = .ag (reC m tv rl b rev)):=by
 obtain⟨X,hX⟩:∃X,X=mRow [iv m.top,iv m.index,tv,tr,tc]:=⟨_,rfl⟩
 have ldx:∀{H:Heap},Abs.look H 0=some X->LdM (iv m.top) (iv m.index) tv tr tc H 0:=fun h=>ldM (by rw[h,hX]);have lr:=hr.len;have lc:=hc.len
 have hrl:rl.length=m.rels.length:=by rw[<-hrm,List.length_map]
 have c1:=cd5 (iv m.top) (iv m.index) tv tr tc
 have hct:A1g (.t tv)=some [.t tv]:=by
  rcases hv with⟨rfl,_⟩ | rfl<;>rfl
 obtain⟨R,hR⟩:∃R,R=T.ag (reC m tv rl b rev):=⟨_,rfl⟩
 rw[<-hR];refine C9f.call rfl ?_;(conv in B6k=>cbv);refine A0a A0g ?_;simp -implicitDefEqProofs [c1];have x0:=ldx (H:=[(1,A9p),(0,X)]) rfl
 obtain⟨Hz,hHz⟩:∃Hz:Heap,Hz=[(1,A9p),(0,X)]:=⟨_,rfl⟩
 rw[<-hHz]at x0;refine MC.sub (s':=⟨[(6,.ptr 1 0),(3,.ptr 0 0),(2,.t (bv rev)),(1,.t (.v (.int .u8 (b:Int))))],Hz,2,84⟩) (by rw[hHz,hX];exact A0d (by simp -implicitDefEqProofs)) rfl ?_
 obtain⟨H0,hH0⟩:∃H0:Heap,H0=(2,C3d m.top m.index tv (.t nilS) (.t nilS))::Hz:=⟨_,rfl⟩
 have s0:A0x 5 ((2,.cells tyMr [.t (iv 0),.t (iv 0),.t nilS,.t nilS,.t nilS])::Hz) (.ptr 2 0) (.t (.ag [iv m.top,iv m.index,tv,nilS,nilS]))=some H0:=by
  rw[st5 (cs:=[.t (iv 0),.t (iv 0),.t nilS,.t nilS,.t nilS]) (by rw[look_cons,if_pos rfl]) rfl,hH0];simp[Abs.upd,C3d]
 have bd:=fun Φ H nx=>bd_ro Φ H nx m.top m.index tv hct;refine A0a A0g ?_;simp -implicitDefEqProofs [x0.l0,x0.l1,x0.l2,bd,s0,-evalK_build];refine MC.sub (s':=SRoz b rev ⟨H0,3,0,0,0⟩) (A0d (by simp -implicitDefEqProofs [SRoz])) rfl ?_;refine MC.sub (A8j (nx':=5) (by show 3<=5;omega)) rfl ?_
 have N0:RoR X m.top m.index tv (reL rl b rev 0) (reL m.cons b rev 0) H0 5 3 4:=
  ⟨by rw[hH0,hHz];rfl,by rw[hH0,hHz];rfl,by rw[hH0];rfl,.inl rfl,.inl rfl,by omega,by omega,by omega,by omega,by omega⟩
 refine A0q (SRoz b rev) (fun a=>RoR X m.top m.index tv (reL rl b rev rl.length) (reL m.cons b rev 0) a.H a.nx a.br a.bc) (fun _=>rfl) ?_ ?_
 ·have z0:=ldx N0.x;refine A0a A0g ?_;simp -implicitDefEqProofs [SRoz,z0.l3,lr];refine A0j ?_;refine A0n (SRoa b rl.length rev) (fun a=>rl.length-a.i) (fun a=>RoR X m.top m.index tv (reL rl b rev a.i) (reL m.cons b rev 0) a.H a.nx a.br a.bc/\a.i<=rl.length) ⟨H0,5,3,4,0⟩ (fun _=>rfl) ⟨N0,Nat.zero_le _⟩ ?_ rfl ?_
  ·exact A0d (by simp -implicitDefEqProofs [SRoa])
  rintro⟨H,nx,br,bc,i⟩ ⟨hN,hi⟩;simp only at hN hi;have z:=ldx hN.x;by_cases hlt:i<rl.length
  rotate_left
  ·have ei:i=rl.length:=by omega
   refine A0e A0g ?_;simp -implicitDefEqProofs [SRoa,hlt];refine Abs.Next.mk ⟨H,nx,br,bc,i⟩ ?_ (A0d (by simp -implicitDefEqProofs [SRoz]));rw[<-ei];exact hN
  obtain⟨k,hk⟩:∃k,k=(i+b)%rl.length:=⟨_,rfl⟩
  have hkl:k<rl.length:=by rw[hk];exact Nat.mod_lt _ (by omega)
  obtain⟨j,hj⟩:∃j,j=reF rl.length b rev i:=⟨_,rfl⟩
  have hjl:j<rl.length:=by rw[hj];exact E1h hlt
  obtain⟨c,hcj⟩:∃c,rl[j]?=some c:=⟨_,List.getElem?_eq_getElem hjl⟩
  obtain⟨ta,hcs,hta⟩:=c.ok;have i1:=hr.iaddr hcj .i64;rw[show eEC.z=3 from rfl,show eEC.enc c=c.cs from rfl,hcs]at i1
  obtain⟨u,hu⟩:∃u,u=i+b:=⟨_,rfl⟩
  have cv:IntKind.i64.wrap (b:Int)=(b:Int):=A0k (n:=b) rfl (by omega);have wA:IntKind.i64.wrap ((i:Int)+(b:Int))=(u:Int):=A0k (by omega) (by omega)
  have tm:Int.tmod (u:Int) ((rl.length:Nat):Int)=(k:Int):=by rw[hk,hu];rfl
  have nz:¬((rl.length:Nat):Int)=0:=by omega
  have rm:∀(Φ:A0u) (H:Heap) (nx:Nat),A0i Φ H nx (.bin false .rem none) [.t (.v (.int .i64 (u:Int))),.t (.v (.int .i64 ((rl.length:Nat):Int)))]=some (.t (iv (k:Int)),H,nx):=fun Φ H nx=>by rw[evalK_rem _ _ _ _ _ nz,tm]
  have w1:=C3b i (by omega);have hb3:=hN.r1;have hb4:=hN.r2;have hb5:=hN.c1;have hb6:=hN.c2;have hb7:=hN.ne;have rll:=D7a rl b rev i (by omega);obtain⟨Hg,ag,bg,cg,fg⟩:=appT (by':=48) (nx:=nx) c 3 rfl c.cs rfl hN.rr hb4 (by omega) (by omega)
  have og:Abs.look Hg 2=some (C3d m.top m.index tv (rowP eEC br (reL rl b rev i)) (rowP eQq bc [])):=by rw[cg 2 (by omega) (by omega)];exact hN.ob
  have sg:=A1z (o:=3) (n:=1) og (A2v eEC nx (reL rl b rev i++[c])) rfl (by simp[C3d])
  obtain⟨Hh,hHh⟩:∃Hh,Hh=Abs.upd Hg 2 (C3d m.top m.index tv (rowP eEC nx (reL rl b rev i++[c])) (rowP eQq bc [])):=⟨_,rfl⟩
  have sg:A0x 1 Hg (.ptr 2 3) (rowP eEC nx (reL rl b rev i++[c]))=some Hh:=by rw[sg,hHh];rfl
  have kh:∀c,c≠2->Abs.look Hh c=Abs.look Hg c:=fun c h=>by rw[hHh,A0f,if_neg h]
  have Mh:RoR X m.top m.index tv (reL rl b rev (i+1)) (reL m.cons b rev 0) Hh (nx+1) nx bc:=by
   rw[C9h (by rw[<-hj];exact hcj)];exact hN.put (fun c h1 h4 h5 _=>by rw[kh c h4,cg c h1 h5]) (by rw[hHh,A0f,if_pos rfl,og];rfl) (bg.imp id fun e=>by rw[kh nx (by omega)];exact e) (.inl rfl) (by omega) (by omega) hb5 (by omega) (by omega)
  have lof:=A7h hN.ob;rw[hcs]at ag
  have tsl:A5c tyEp 3 [.string ⟨#[]⟩,.int .i64 0,.slice none 0 0] 1 [(0,.t (.ag [sv c.x.pred,iv c.x.label,ta]))]=some (.t (.sl 1 [sv c.x.pred,iv c.x.label,ta])):=by
   rcases hta with⟨rfl,_⟩ | rfl<;>rfl
  refine A0a A0g ?_;simp -implicitDefEqProofs [SRoa,hlt];refine A0a A0g ?_;simp -implicitDefEqProofs;refine A0q (fun a:RoA=>⟨[(22,.t (iv (i:Int))),(21,.t (iv (rl.length:Int))),(7,.ptr 2 0),(6,.ptr 1 0),(3,.ptr 0 0),(2,.t (bv rev)),(1,.t (.v (.int .u8 (b:Int))))],a.H,a.nx,84⟩) (fun a=>RoR X m.top m.index tv (reL rl b rev (i+1)) (reL m.cons b rev 0) a.H a.nx a.br a.bc) (fun _=>rfl) ?_ ?_
  ·refine A0j ?_;refine A0a A0g ?_;simp -implicitDefEqProofs;refine A0a A0g ?_;simp -implicitDefEqProofs [cv,wA,z.l3,lr,rm];refine A0q (fun _:Unit=>⟨[(9,.t (iv (j:Int))),(22,.t (iv (i:Int))),(21,.t (iv (rl.length:Int))),(7,.ptr 2 0),(6,.ptr 1 0),(3,.ptr 0 0),(2,.t (bv rev)),(1,.t (.v (.int .u8 (b:Int))))],H,nx,84⟩) (fun _=>True) (fun _=>rfl) ?_ ?_
   ·cases rev with
    | false=>
     have ej:j=k:=by rw[hj,hk];rfl
     refine A0e A0g ?_;simp -implicitDefEqProofs;exact Abs.Next.mk () trivial (A0d (by simp -implicitDefEqProofs [ej]))
    | true=>
     have ej:j=rl.length-1-k:=by rw[hj,hk];rfl
     have wB:IntKind.i64.wrap ((rl.length:Int)-1)=((rl.length-1:Nat):Int):=A0k (by omega) (by omega);have wC:IntKind.i64.wrap (((rl.length-1:Nat):Int)-(k:Int))=(j:Int):=A0k (by omega) (by omega);refine A0e A0g ?_;simp -implicitDefEqProofs [z.l3,lr,wB,wC];exact Abs.Next.mk () trivial (A0d (by simp -implicitDefEqProofs))
   rintro _ _;refine A0e A0g ?_;simp -implicitDefEqProofs [lof.2.2.2.1,z.l3,i1,l3_c,tsl,ag,sg];exact Abs.Next.mk ⟨Hh,nx+1,nx,bc,0⟩ Mh (A0d (by simp -implicitDefEqProofs))
  ·rintro⟨Ha,na,ra,ca,_⟩ hN';refine A0e A0g ?_;simp -implicitDefEqProofs [w1];exact Abs.Next.mk ⟨Ha,na,ra,ca,i+1⟩ ⟨⟨hN',by show i+1<=_;omega⟩,by show rl.length-(i+1)<rl.length-i;omega⟩ (A0d (by simp -implicitDefEqProofs [SRoa]))
 rintro⟨H5,n5,b5,c5,_⟩ N5;simp only at N5;refine A0q (SRoz b rev) (fun a=>RoR X m.top m.index tv (reL rl b rev rl.length) (reL m.cons b rev m.cons.length) a.H a.nx a.br a.bc) (fun _=>rfl) ?_ ?_
 ·have z0:=ldx N5.x;refine A0a A0g ?_;simp -implicitDefEqProofs [SRoz,z0.l4,lc];refine A0j ?_;refine A0n (SRob b m.cons.length rev) (fun a=>m.cons.length-a.i) (fun a=>RoR X m.top m.index tv (reL rl b rev rl.length) (reL m.cons b rev a.i) a.H a.nx a.br a.bc/\a.i<=m.cons.length) ⟨H5,n5,b5,c5,0⟩ (fun _=>rfl) ⟨N5,Nat.zero_le _⟩ ?_ rfl ?_
  ·exact A0d (by simp -implicitDefEqProofs [SRob])
  rintro⟨H,nx,br,bc,i⟩ ⟨hN,hi⟩;simp only at hN hi;have z:=ldx hN.x;by_cases hlt:i<m.cons.length
  rotate_left
  ·have ei:i=m.cons.length:=by omega
   refine A0e A0g ?_;simp -implicitDefEqProofs [SRob,hlt];refine Abs.Next.mk ⟨H,nx,br,bc,i⟩ ?_ (A0d (by simp -implicitDefEqProofs [SRoz]));rw[<-ei];exact hN
  obtain⟨k,hk⟩:∃k,k=(i+b)%m.cons.length:=⟨_,rfl⟩
  have hkl:k<m.cons.length:=by rw[hk];exact Nat.mod_lt _ (by omega)
  obtain⟨j,hj⟩:∃j,j=reF m.cons.length b rev i:=⟨_,rfl⟩
  have hjl:j<m.cons.length:=by rw[hj];exact E1h hlt
  obtain⟨c,hcj⟩:∃c,m.cons[j]?=some c:=⟨_,List.getElem?_eq_getElem hjl⟩
  have i1:=hc.iaddr hcj .i64;rw[show eQq.z=2 from rfl,show eQq.enc c=[iv c.high,iv c.low]from rfl]at i1
  obtain⟨u,hu⟩:∃u,u=i+b:=⟨_,rfl⟩
  have cv:IntKind.i64.wrap (b:Int)=(b:Int):=A0k (n:=b) rfl (by omega);have wA:IntKind.i64.wrap ((i:Int)+(b:Int))=(u:Int):=A0k (by omega) (by omega)
  have tm:Int.tmod (u:Int) ((m.cons.length:Nat):Int)=(k:Int):=by rw[hk,hu];rfl
  have nz:¬((m.cons.length:Nat):Int)=0:=by omega
  have rm:∀(Φ:A0u) (H:Heap) (nx:Nat),A0i Φ H nx (.bin false .rem none) [.t (.v (.int .i64 (u:Int))),.t (.v (.int .i64 ((m.cons.length:Nat):Int)))]=some (.t (iv (k:Int)),H,nx):=fun Φ H nx=>by rw[evalK_rem _ _ _ _ _ nz,tm]
  have w1:=C3b i (by omega);have hb3:=hN.r1;have hb4:=hN.r2;have hb5:=hN.c1;have hb6:=hN.c2;have hb7:=hN.ne;have rll:=D7a m.cons b rev i (by omega);obtain⟨Hg,ag,bg,cg,fg⟩:=appT (by':=16) (nx:=nx) c 2 rfl [iv c.high,iv c.low] rfl hN.rc hb6 (by omega) (by omega)
  have og:Abs.look Hg 2=some (C3d m.top m.index tv (rowP eEC br (reL rl b rev rl.length)) (rowP eQq bc (reL m.cons b rev i))):=by rw[cg 2 (by omega) (by omega)];exact hN.ob
  have sg:=A1z (o:=4) (n:=1) og (A2v eQq nx (reL m.cons b rev i++[c])) rfl (by simp[C3d])
  obtain⟨Hh,hHh⟩:∃Hh,Hh=Abs.upd Hg 2 (C3d m.top m.index tv (rowP eEC br (reL rl b rev rl.length)) (rowP eQq nx (reL m.cons b rev i++[c]))):=⟨_,rfl⟩
  have sg:A0x 1 Hg (.ptr 2 4) (rowP eQq nx (reL m.cons b rev i++[c]))=some Hh:=by rw[sg,hHh];rfl
  have kh:∀c,c≠2->Abs.look Hh c=Abs.look Hg c:=fun c h=>by rw[hHh,A0f,if_neg h]
  have Mh:RoR X m.top m.index tv (reL rl b rev rl.length) (reL m.cons b rev (i+1)) Hh (nx+1) br nx:=by
   rw[C9h (by rw[<-hj];exact hcj)];exact hN.put (fun c h1 h4 _ h5=>by rw[kh c h4,cg c h1 h5]) (by rw[hHh,A0f,if_pos rfl,og];rfl) (hN.rr.imp id fun e=>by rw[kh br (by omega),cg br (by omega) hb7];exact e) (bg.imp id fun e=>by rw[kh nx (by omega)];exact e) hb3 (by omega) (by omega) (by omega) (by omega)
  have lof:=A7h hN.ob;refine A0a A0g ?_;simp -implicitDefEqProofs [SRob,hlt];refine A0a A0g ?_;simp -implicitDefEqProofs;refine A0q (fun a:RoA=>⟨[(54,.t (iv (i:Int))),(53,.t (iv (m.cons.length:Int))),(7,.ptr 2 0),(6,.ptr 1 0),(3,.ptr 0 0),(2,.t (bv rev)),(1,.t (.v (.int .u8 (b:Int))))],a.H,a.nx,84⟩) (fun a=>RoR X m.top m.index tv (reL rl b rev rl.length) (reL m.cons b rev (i+1)) a.H a.nx a.br a.bc) (fun _=>rfl) ?_ ?_
  ·refine A0j ?_;refine A0a A0g ?_;simp -implicitDefEqProofs;refine A0a A0g ?_;simp -implicitDefEqProofs [cv,wA,z.l4,lc,rm];refine A0q (fun _:Unit=>⟨[(11,.t (iv (j:Int))),(54,.t (iv (i:Int))),(53,.t (iv (m.cons.length:Int))),(7,.ptr 2 0),(6,.ptr 1 0),(3,.ptr 0 0),(2,.t (bv rev)),(1,.t (.v (.int .u8 (b:Int))))],H,nx,84⟩) (fun _=>True) (fun _=>rfl) ?_ ?_
   ·cases rev with
    | false=>
     have ej:j=k:=by rw[hj,hk];rfl
     refine A0e A0g ?_;simp -implicitDefEqProofs;exact Abs.Next.mk () trivial (A0d (by simp -implicitDefEqProofs [ej]))
    | true=>
     have ej:j=m.cons.length-1-k:=by rw[hj,hk];rfl
     have wB:IntKind.i64.wrap ((m.cons.length:Int)-1)=((m.cons.length-1:Nat):Int):=A0k (by omega) (by omega);have wC:IntKind.i64.wrap (((m.cons.length-1:Nat):Int)-(k:Int))=(j:Int):=A0k (by omega) (by omega);refine A0e A0g ?_;simp -implicitDefEqProofs [z.l4,lc,wB,wC];exact Abs.Next.mk () trivial (A0d (by simp -implicitDefEqProofs))
   rintro _ _;refine A0e A0g ?_;simp -implicitDefEqProofs [lof.2.2.2.2,z.l4,i1,A6j,F7r,ag,sg];exact Abs.Next.mk ⟨Hh,nx+1,br,nx,0⟩ Mh (A0d (by simp -implicitDefEqProofs))
  ·rintro⟨Ha,na,ra,ca,_⟩ hN';refine A0e A0g ?_;simp -implicitDefEqProofs [w1];exact Abs.Next.mk ⟨Ha,na,ra,ca,i+1⟩ ⟨⟨hN',by show i+1<=_;omega⟩,by show m.cons.length-(i+1)<m.cons.length-i;omega⟩ (A0d (by simp -implicitDefEqProofs [SRob]))
 rintro⟨H6,n6,b6,c6,_⟩ N6;simp only at N6;have q1:=N6.r1;have q2:=N6.c1
 obtain⟨Hf,hHf⟩:∃Hf,Hf=A5u H6 [b6,c6]:=⟨_,rfl⟩
 have of:Abs.look Hf 2=some (mRow (reC m tv rl b rev)):=by
  rw[hHf,A1b (by simp;omega) N6.ob];simp only[A6u,C3d,List.map_cons,List.map_nil,fz_t,B3d N6.rr (F:=[b6,c6]) (by simp),B3d N6.rc (F:=[b6,c6]) (by simp)];rfl
 have zf:Abs.look Hf 1=some A9p:=by rw[hHf,A1b (by simp;omega) N6.z];rfl
 refine MC.sub (s':=⟨[(7,.ptr 2 0),(6,.ptr 1 0)],Hf,n6,84⟩) (by rw[hHf];exact A5i [b6,c6] (by simp -implicitDefEqProofs [SRoz,fz_t,B1t])) rfl ?_;have l2:A0t true 5 Hf (.ptr 2 0)=some (.t (.ag (reC m tv rl b rev))):=(ldM of).all;have s6:A0x 5 Hf (.ptr 1 0) (.t (.ag (reC m tv rl b rev)))=some (Abs.upd Hf 1 (mRow (reC m tv rl b rev))):=st5 zf rfl;have l6:A0t true 5 (Abs.upd Hf 1 (mRow (reC m tv rl b rev))) (.ptr 1 0)=some (.t (.ag (reC m tv rl b rev))):=(ldM (k:=1) (H:=Abs.upd Hf 1 (mRow (reC m tv rl b rev))) (by rw[A0f,if_pos rfl,zf];rfl)).all;refine A0e A0g ?_;simp -implicitDefEqProofs [l2,s6,l6,hR]
theorem F9v {m:Mr} {tv tr tc:T} {rl:List EC} (hv:IsS eStr tv m.vars) (hrm:rl.map EC.x=m.rels) (b:Nat) (rev:Bool):IsMr (reM m b rev) (reC m tv rl b rev):=
 ⟨_,_,_,reL rl b rev rl.length,rfl,hv,IsS.tree _ _,by rw[F9u,hrm];show _=reL m.rels b rev m.rels.length;rw[<-hrm,List.length_map],IsS.tree _ _⟩
theorem G3j {m:Mr} (h1:m.rels.length<=5) (h2:m.cons.length<=5) (h4:∀x∈m.rels,x.args.length<=10):(occ m).length<=900:=by
 have e:=C9b m
 have key:∀l:List Ep,(∀x∈l,x.args.length<=10)->nE l<=l.length*11:=fun l=>by
  induction l with
  | nil=>intro _;exact Nat.le_refl _
  | cons x l ih=>
   intro h;have g1:=h x (by simp);have g2:=ih fun y hy=>h y (by simp[hy]);rw[nE,List.length_cons,Nat.succ_mul];omega
 have k:=key m.rels h4;have:m.rels.length*11<=5*11:=Nat.mul_le_mul_right 11 (by omega);omega
def SOo (tp:T) (ku n nx:Nat) (H:Heap) (i:Nat):A0c:=⟨[(47,.t (iv (i:Int))),(46,.t (iv (n:Int))),(10,.row ku 0 n 1),(8,.t tp),(7,.ptr 1 0),(3,.ptr 0 0)],H,nx,104⟩
structure SoC where
 H:Heap
 i:Nat
section
variable {m : Mr} {cs : List T}
theorem D7b (h:InM m cs) (b:Nat) (hb:b<256) (rev:Bool):A1d Tryz.prog (G q) 10 [.ag cs,.v (.int .u8 (b:Int)),bv rev] (· = bv true):=by
 have hV:=A4d (B7w (q:=q) h (most:=5) (by omega));have v1:=A1i [.ag cs,iv 5] (bv (valB m 5));have e0:=A1i [] (bv true);have cd:=cdM h
 obtain⟨X,hX⟩:∃X,X=mRow cs:=⟨_,rfl⟩
 have la:=allM h (H:=[(0,X)]) (k:=0) (by rw[hX];rfl);refine C3e.call rfl ?_;(conv in B1x=>cbv);have C:Ctx Tryz.prog (G q) _:=(A0s.cons hV (.cons (hEx (q:=q)) .nil)).ctx mixed;refine A0a C ?_;simp -implicitDefEqProofs [cd];rw[show Row.cells tyMr (cs.map .t)=X from hX.symm]
 cases hl:valB m 5 with
 | false=>
  rw[hl]at v1;refine A0a C ?_;simp -implicitDefEqProofs [la,hl,v1,e0]
 | true=>
 rw[hl]at v1;refine A0a C ?_;simp -implicitDefEqProofs [la,hl,v1];obtain⟨ma,fa⟩:=B7x h hl;obtain⟨hli,hck⟩:=C9g hl;obtain⟨g1,g2,g3,g4⟩:=B6l hli;obtain⟨tv,tr,tc,rl,hcs,hv,hr,hrm,hc⟩:=h.is
 obtain⟨n0,hn0⟩:∃n0,n0=reM m b rev:=⟨_,rfl⟩
 have pr:m.rels.Perm n0.rels:=by rw[hn0];exact(E1i m.rels b rev).symm
 have pc:m.cons.Perm n0.cons:=by rw[hn0];exact(E1i m.cons b rev).symm
 have lo0:=C6g (by rw[hn0];rfl) (by rw[hn0];rfl) (by rw[hn0];rfl) pr pc ma.lo (b:=n0);have sm0:SmM n0:=D3p lo0 (fun x hx=>ma.sm.args x (pr.mem_iff.2 hx)) (fun x hx=>ma.sm.strs x (pr.mem_iff.2 hx));obtain⟨ckN,p,hp,hnd,hpl,hpk⟩:=E4u (a:=m) (b:=n0) (by rw[hn0];rfl) (by rw[hn0];rfl) (by rw[hn0];rfl) pr pc hck;have is0:=F9v (tr:=tr) (tc:=tc) hv hrm b rev;rw[<-hn0]at is0;have hRo:=A4d (D3r (q:=q) hv hr hrm hc b hb rev (by omega) (by omega));rw[<-hcs]at hRo
 obtain⟨c0,hc0⟩:∃c0,c0=reC m tv rl b rev:=⟨_,rfl⟩
 rw[<-hc0]at hRo is0;have hNu:=A4d (B1u (q:=q) is0 sm0 lo0.ok);have smN:=F1k lo0 sm0;have loN:=A9f lo0
 obtain⟨Nn,hNn⟩:∃Nn,Nn=numM n0:=⟨_,rfl⟩
 have nrl:Nn.rels.length=m.rels.length:=by rw[hNn];show(n0.rels.map _).length=_;rw[List.length_map,pr.length_eq]
 have nal:∀x∈Nn.rels,x.args.length<=10:=fun x hx=>by
  rw[hNn]at hx;obtain⟨y,hy,rfl⟩:=List.mem_map.1 hx;show(y.args.map _).length<=_;rw[List.length_map];exact g4 y (pr.mem_iff.2 hy)
 have ncl:Nn.cons.length<=5:=by rw[hNn];show(n0.cons.map _).length<=_;rw[List.length_map,<-pc.length_eq];omega
 rw[<-hNn]at hp hpk hNu smN loN ckN;have isN:=A3h Nn
 have mN:MtIn Nn (encM Nn):=⟨isN,smN,loN,G3j (by omega) ncl nal⟩
 have hMt:=A4d (B0d (q:=q) ma.is mN.is ma.sm mN.sm ma.lo mN.lo ma.oc mN.oc fa);have hSa:=A4d (B7r (q:=q) ma mN fa);rw[hp]at hMt hSa
 obtain⟨tp,htp⟩:∃tp,tp=slT eInt (natL p):=⟨_,rfl⟩
 rw[show mmT (some p)=T.tu [slT eInt (natL p),bv true]from rfl,<-htp]at hMt
 have hTp:IsS eInt tp (natL p):=by rw[htp];exact IsS.mk _
 have npl:(natL p).length=p.length:=by unfold natL;rw[List.length_map]
 have lp':=hTp.len;rw[npl]at lp'
 have ck:C2b [.ag (encM Nn)]=some (iv 0):=by
  have:=B3a (fun m=>iv (A3c A0h m)) isN smN;rw[ckN]at this;exact this
 obtain⟨trN,htrN⟩:∃t,t=A1a eEC (Nn.rels.map EC.of):=⟨_,rfl⟩
 have hTr:IsS eEC trN (Nn.rels.map EC.of):=by rw[htrN];exact IsS.tree _ _
 obtain⟨cN,hcN⟩:∃cN,cN=encM Nn:=⟨_,rfl⟩
 have h5:cN.length=5:=by rw[hcN];rfl
 rw[<-hcN]at hNu hMt hSa ck;have lr:=hr.len
 have hrl:rl.length=m.rels.length:=by rw[<-hrm,List.length_map]
 rw[hrl]at lr;have q1:=A1i [.ag cs,.v (.int .u8 (b:Int)),bv rev] (.ag c0);have q2:=A1i [.ag c0] (.ag cN);have q3:=A1i [.ag cs,.ag cN] (T.tu [tp,bv true]);have q4:=A1i [.ag cs,.ag cN] (bv (some p).isSome);have s1:=sM h5
 obtain⟨H0,hH0⟩:∃H0:Heap,H0=[(1,mRow cN),(0,X)]:=⟨_,rfl⟩
 have x0:Abs.look H0 0=some X:=by rw[hH0];rfl
 have y0:Abs.look H0 1=some (mRow cN):=by rw[hH0];rfl
 have C1:Ctx Tryz.prog (G q) _:=(A0s.cons hRo (.cons hNu .nil)).ctx mixed;have C2:Ctx Tryz.prog (G q) _:=(A0s.cons hMt (.cons (D1s (q:=q)) .nil)).ctx mixed;have C3:Ctx Tryz.prog (G q) _:=(A0s.cons hSa (.cons (hEx (q:=q)) .nil)).ctx mixed;refine A0a C1 ?_;simp -implicitDefEqProofs [la,q1,q2,s1];refine MC.sub (s':=⟨[(7,.ptr 1 0),(3,.ptr 0 0)],H0,2,104⟩) (by rw[hH0];exact A0d (by simp -implicitDefEqProofs)) rfl ?_;have lx:=allM h (H:=H0) (k:=0) (by rw[x0,hX]);have ly:=lM5 h5 y0;have ldx:∀{H:Heap},Abs.look H 0=some X->LdM (iv m.top) (iv m.index) tv tr tc H 0:=fun h=>ldM (by rw[h,hX,hcs]);have ldy:∀{H:Heap},Abs.look H 1=some (mRow cN)->LdM (iv Nn.top) (iv Nn.index) (A1a eStr Nn.vars) trN (A1a eQq Nn.cons) H 1:=fun h=>ldM (by rw[h,hcN,htrN];rfl);have Lx:=ldx x0;refine A0a C2 ?_;simp -implicitDefEqProofs [lx,ly,q3];refine A0a C2 ?_;simp -implicitDefEqProofs [ly,ck,lp',Lx.l3,lr,hpl];have mk:=C8o (ty:=tyO) (by':=1) (nx:=2) (.bool false) (n:=p.length) (by omega) (by omega);rw[hpl]at mk;refine A0a C2 ?_;simp -implicitDefEqProofs [lp',hpl,mk];rw[hpl]at lp' npl
 obtain⟨n,hn⟩:∃n,n=m.rels.length:=⟨_,rfl⟩
 rw[<-hn]at lp' npl mk hpl lr nrl g1;rw[<-hn]
 obtain⟨H1,hH1⟩:∃H1:Heap,H1=(2,Row.cells tyO (List.replicate n (.t (.v (.bool false)))))::H0:=⟨_,rfl⟩
 have w0:Abs.look H1 0=some X:=by rw[hH1,look_cons,if_neg (by omega)];exact x0
 have w1':Abs.look H1 1=some (mRow cN):=by rw[hH1,look_cons,if_neg (by omega)];exact y0
 have w2:Abs.look H1 2=some (A0l A8m tyO (useL n [])):=by rw[C8s,A9l (c:=bv false) rfl,hH1,look_cons,if_pos rfl]
 rw[<-hH1];refine MC.sub (s':=⟨[(10,.row 2 0 n 1),(8,.t tp),(7,.ptr 1 0),(3,.ptr 0 0)],H1,3,104⟩) (A0d (by simp -implicitDefEqProofs)) rfl ?_;refine A0q (fun H:Heap=>⟨[(7,.ptr 1 0),(3,.ptr 0 0)],H,3,104⟩) (fun H=>Abs.look H 0=some X/\Abs.look H 1=some (mRow cN)) (fun _=>rfl) ?_ ?_
 ·refine A0a A0g ?_;simp -implicitDefEqProofs [lp'];refine A0j ?_;refine A0n (fun c:SoC=>SOo tp 2 n 3 c.H c.i) (fun c=>n-c.i) (fun c=>Abs.look c.H 0=some X/\Abs.look c.H 1=some (mRow cN)/\Abs.look c.H 2=some (A0l A8m tyO (useL n (p.take c.i)))/\c.i<=n) ⟨H1,0⟩ (fun _=>rfl) ⟨w0,w1',w2,Nat.zero_le _⟩ ?_ rfl ?_
  ·exact A0d (by simp -implicitDefEqProofs [SOo])
  rintro⟨H,i⟩ ⟨hx0,hy0,hu,hi⟩;simp only at hx0 hy0 hu hi;by_cases hlt:i<n
  rotate_left
  ·refine A0e A0g ?_;simp -implicitDefEqProofs [SOo,hlt];exact Abs.Next.mk H ⟨hx0,hy0⟩ (A0d (by simp -implicitDefEqProofs))
  have Mx:=ldx hx0;have My:=ldy hy0
  obtain⟨k,hk⟩:∃k,p[i]?=some k:=⟨_,List.getElem?_eq_getElem (by omega)⟩
  obtain⟨hkl,hpe⟩:=hpk i k hk;rw[hpl]at hkl
  have hnk:(natL p)[i]?=some (k:Int):=by unfold natL;rw[List.getElem?_map,hk];rfl
  have i1:=hTp.iaddr hnk .i64;rw[show eInt.z=1 from rfl,show eInt.enc (k:Int)=[iv (k:Int)]from rfl]at i1
  have hkn:k∉p.take i:=fun hm=>by
   obtain⟨j,hj⟩:=List.getElem?_of_mem hm
   have hji:j<i:=by
    have:=(List.getElem?_eq_some_iff.1 hj).1;rw[List.length_take]at this;omega
   rw[List.getElem?_take_of_lt hji]at hj
   have h1:=(List.getElem?_eq_some_iff.1 hj)
   have h2:=(List.getElem?_eq_some_iff.1 hk)
   have:=(List.getElem_inj hnd).1 (h1.2.trans h2.2.symm);omega
  have d1:decide ((k:Int)<0)=false:=decide_eq_false (by omega);have d2:decide ((n:Int)<=(k:Int))=false:=decide_eq_false (by omega)
  have hge:¬n<=k:=by omega
  have iu:A2e 1 (.row 2 0 n 1) (.t (iv (k:Int)))=some (.ptr 2 k):=A7u _ _ _ hkl
  have lu:A0t false 1 H (.ptr 2 k)=some (.t (bv false)):=by
   have:=B1s hu (A8o (p.take i) hkl) (c:=bv (decide (k∈p.take i))) rfl rfl;rw[decide_eq_false hkn]at this;exact this
  obtain⟨y,hy⟩:∃y,Nn.rels[k]?=some y:=⟨_,List.getElem?_eq_getElem (by omega)⟩
  have hyc:(Nn.rels.map EC.of)[k]?=some (EC.of y):=by rw[List.getElem?_map,hy];rfl
  have i2:=hTr.iaddr hyc .i64;rw[show eEC.z=3 from rfl,show eEC.enc (EC.of y)=[sv y.pred,iv y.label,A1a eAg y.args]from rfl]at i2
  obtain⟨c,hc1⟩:∃c,rl[i]?=some c:=⟨_,List.getElem?_eq_getElem (by omega)⟩
  have hcx:m.rels[i]?=some c.x:=by rw[<-hrm,List.getElem?_map,hc1];rfl
  obtain⟨ta,hcc,hta⟩:=c.ok;have i3:=hr.iaddr hc1 .i64;rw[show eEC.z=3 from rfl,show eEC.enc c=c.cs from rfl,hcc]at i3
  have epr:y.pred=c.x.pred:=by
   rw[List.getD_eq_getElem?_getD,hy,List.getD_eq_getElem?_getD,hcx]at hpe;exact hpe
  rw[epr]at i2;have s2:=A5v (e:=A8m) (ty:=tyO) (c:=bv true) (x:=true) rfl hu (i:=k) (by rw[A2r];exact hkl) rfl rfl
  have eset:(useL n (p.take i)).set k true=useL n (p.take (i+1)):=C7f hkl fun j=>by
   rw[List.take_add_one,hk];simp[or_comm]
  rw[eset]at s2;have w1:=C3b i (by have:=ma.sm.rels;omega);refine A0a A0g ?_;simp -implicitDefEqProofs [SOo,hlt];refine A0a A0g ?_;simp -implicitDefEqProofs;refine A0q (fun H:Heap=>SOo tp 2 n 3 H i) (fun H=>Abs.look H 0=some X/\Abs.look H 1=some (mRow cN)/\Abs.look H 2=some (A0l A8m tyO (useL n (p.take (i+1))))) (fun _=>rfl) ?_ ?_
  ·refine A0j ?_;refine A0a A0g ?_;simp -implicitDefEqProofs;refine A0a A0g ?_;simp -implicitDefEqProofs [i1,lp,d1,lp',d2,hge,iu,lu,My.l3,i2,Mx.l3,i3];refine A0e A0g ?_;simp -implicitDefEqProofs [i1,lp,iu,s2];exact Abs.Next.mk (Abs.upd H 2 (A0l A8m tyO (useL n (p.take (i+1))))) ⟨by rw[A0f,if_neg (by omega)];exact hx0,by rw[A0f,if_neg (by omega)];exact hy0,by rw[A0f,if_pos rfl,hu];rfl⟩ (A0d (by simp -implicitDefEqProofs [SOo]))
  ·rintro Hz ⟨z0,z1,z2⟩;refine A0e A0g ?_;simp -implicitDefEqProofs [SOo,w1];exact Abs.Next.mk ⟨Hz,i+1⟩ ⟨⟨z0,z1,z2,hlt⟩,by show n-(i+1)<n-i;omega⟩ (A0d (by simp -implicitDefEqProofs [SOo]))
 rintro H ⟨hx0,hy0⟩;have fx:=allM h (H:=H) (k:=0) (by rw[hx0,hX]);have fy:=lM5 h5 hy0;rw[show(some p).isSome=true from rfl]at q4;refine A0e C3 ?_;simp -implicitDefEqProofs [fx,fy,q4,e0]
end
end Go.Proofs.YtmgjopafgboljaaGreatDoor
