/- Auxiliary facts. -/
import Derived.Test.YtobnacghaamfoaaGreatDoorVGQ24
import Derived.Test.YtobnacghaamfoaaGreatDoorVGQ13
import Derived.Test.YtobnacghaamfoaaGreatDoorVGQ32
set_option linter.unusedSimpArgs false
set_option maxRecDepth 100000
set_option maxHeartbeats 0
set_option linter.unusedVariables false
open Go.Proofs.Tryz renaming prog->Xa
open List renaming getElem?_eq_getElem->Xb,mem_of_getElem?->Xd,mem_singleton->Xe,isPrefixOf->Xf
open Go.IntKind renaming i64->Xc
namespace Go.Proofs.YtobnacghaamfoaaGreatDoor
open Go Go.Abs
variable {q : Gl}
inductive EO:Ds->Prop where
 | mk (op:Int) (name:ByteArray) (path:List ByteArray) (kids:List Ds):path.length<=1000->kids.length<=1000->(∀k∈kids,EO k)->EO (.mk op name path kids)
theorem EO.parts {op:Int} {name:ByteArray} {path:List ByteArray} {kids:List Ds} (h:EO (.mk op name path kids)):path.length<=1000/\kids.length<=1000/\∀k∈kids,EO k:=by
 cases h with
 | mk _ _ _ _ h1 h2 h3=>exact⟨h1,h2,h3⟩
noncomputable def gSd (m:Nat) (ts:List T):Option T:=g2 tD tD (λa b=>open Classical in if a=b/\EO a/\a.depth<=m then some (bv true)else none) ts
noncomputable def QS (m:Nat) (ts:List T):Option T:=g2 tK tK (λa b=>open Classical in if a=b/\a.length<=1000/\(∀k∈a,EO k)/\JJ a<=m then some (bv true)else none) ts
theorem dE {m:Nat} {c c':List T} {d:Ds} (h:BG d c) (h':BG d c') (hf:EO d) (hd:d.depth<=m):gSd m [.ag c,.ag c']=some (bv true):=by
 show g2 _ _ _ _=_;rw[Dz (τ:=tD) (σ:=tD) ⟨c,rfl,h⟩ ⟨c',rfl,h'⟩,zy ⟨rfl,hf,hd⟩]
theorem dF {m:Nat} {t u:T} {l:List Ds} (h:IsK t l) (h':IsK u l) (hl:l.length<=1000) (hf:∀k∈l,EO k) (hd:JJ l<=m):QS m [t,u]=some (bv true):=by
 show g2 _ _ _ _=_;rw[Dz (τ:=tK) (σ:=tK) h h',zy ⟨rfl,hl,hf,hd⟩]
theorem A0h {m:Nat} (hrec:GOK Xa (G q) 84 (gSd m)) {t u:T} {l:List Ds} (h:IsK t l) (h':IsK u l) (hl:l.length<=1000) (hf:∀k∈l,EO k) (hd:JJ l<=m) :
  A1 Xa (G q) 85 [t,u] (· = bv true):=by
 have C:=(As.cons hrec .nil).ctx mixed;refine uW.call rfl ?_;(conv in aL=>cbv);have l1:=h.len;have l2:=h'.len;refine Av C ?_;simp -implicitDefEqProofs;refine Av C ?_;simp -implicitDefEqProofs [l1,l2];refine BF (α:=Unit) (λ_=>Kb 27 t u) (λ_=>True) (λ_=>rfl) ?_ ?_
 .refine Av C ?_;simp -implicitDefEqProofs;refine BD ?_;refine Gv (JZ 27 t u) l.length (λ_=>rfl) ?_ rfl ?_ ?_
  .refine AQ rfl rfl ?_ ?_<;>simp -implicitDefEqProofs [JZ]
  .intro j hj;refine Ap C ?_
   obtain⟨x,hx⟩:∃x,l[j]?=some x:=⟨_,Xb hj⟩
   obtain⟨p,c,i1,ld1,hc⟩:=OJ h hx;obtain⟨p',c',i2,ld2,hc'⟩:=OJ h' hx;have hmem:=Xd hx;have hg:=dE hc hc' (hf x hmem) (Nat.le_trans (SE hmem) hd);have e1:Xc.wrap ((j:Int)+1)=((j+1:Nat):Int):=AP (by omega) (by omega);simp -implicitDefEqProofs [JZ,l1,hj,i1,i2,ld1,ld2,hg,e1];refine AQ rfl rfl ?_ ?_<;>simp -implicitDefEqProofs
  .refine Ap C ?_;simp -implicitDefEqProofs [JZ,l1];exact Am.mk () trivial (AQ rfl rfl (by simp -implicitDefEqProofs [Kb]) (by simp -implicitDefEqProofs [Kb]))
 .rintro _ _;refine Ap C ?_;simp -implicitDefEqProofs [Kb]
section
variable (R : Ab) (X : Row) (op : Int) (name : ByteArray) (tp tk : T)
theorem el0:Aj false 1 ((1,Dd op name tp tk)::R) (.ptr 1 0)=some (.t (iv op)):=rfl
theorem el1:Aj false 1 ((1,Dd op name tp tk)::R) (.ptr 1 1)=some (.t (sv name)):=rfl
theorem el2:Aj false 1 ((1,Dd op name tp tk)::R) (.ptr 1 2)=some (.t tp):=rfl
theorem el3:Aj false 1 ((1,Dd op name tp tk)::R) (.ptr 1 3)=some (.t tk):=rfl
theorem fl0:Aj false 1 ((1,X)::(0,Dd op name tp tk)::R) (.ptr 0 0)=some (.t (iv op)):=rfl
theorem fl1:Aj false 1 ((1,X)::(0,Dd op name tp tk)::R) (.ptr 0 1)=some (.t (sv name)):=rfl
theorem fl2:Aj false 1 ((1,X)::(0,Dd op name tp tk)::R) (.ptr 0 2)=some (.t tp):=rfl
theorem fl3:Aj false 1 ((1,X)::(0,Dd op name tp tk)::R) (.ptr 0 3)=some (.t tk):=rfl
end
theorem A0i {m:Nat} (hrec:GOK Xa (G q) 85 (QS m)) {c c':List T} {d:Ds} (h:BG d c) (h':BG d c') (hf:EO d) (hd:d.depth<=m+1) :
  A1 Xa (G q) 84 [.ag c,.ag c'] (· = bv true):=by
 cases d with
 | mk op name path kids=>
 obtain⟨tp,tk,rfl,hp,hk⟩:=h.parts;obtain⟨tp',tk',rfl,hp',hk'⟩:=h'.parts;obtain⟨f1,f2,f3⟩:=hf.parts;rw[Ds.depth]at hd;have C:=(As.cons hrec (.cons OK .nil)).ctx mixed;have g1:=Lw hp hp' (by omega);have g2:=dF (m:=m) hk hk' f2 f3 (by omega);refine uV.call rfl ?_;refine Ap C ?_
 (conv in aK=>cbv);simp -implicitDefEqProofs [HU,fl0,fl1,fl2,fl3,el0,el1,el2,el3,g1,g2]
theorem dG (m:Nat) (hrec:GOK Xa (G q) 84 (gSd m)):GOK Xa (G q) 85 (QS m):=
 Do λa b x y r ha hb hr=>by
  split at hr
  .rename_i hc;obtain⟨rfl,h1,h2,h3⟩:=hc;injection hr with hr;subst hr;exact A0h hrec ha hb h1 h2 h3
  .cases hr
theorem hSd:∀m,GOK Xa (G q) 84 (gSd m)
 | 0=>Do λa b x y r ha hb hr=>by
  split at hr
  .rename_i hc;obtain⟨rfl,h1,h2⟩:=hc
   cases x with
   | mk _ _ _ _=>rw[Ds.depth]at h2;omega
  .cases hr
 | m+1=>Do λa b x y r ha hb hr=>by
  split at hr
  .rename_i hc;obtain⟨rfl,h1,h2⟩:=hc;injection hr with hr;subst hr;obtain⟨c,rfl,hcx⟩:=ha;obtain⟨c',rfl,hcx'⟩:=hb;exact A0i (dG m (hSd m)) hcx hcx' h1 h2
  .cases hr
theorem A0j (m:Nat):GOK Xa (G q) 85 (QS m):=dG m (hSd m)
section
variable {α : Type} {z : Nat} {h : 0 < z} {R : α -> List T -> Prop} {t : T} {l : List α}
theorem IsL.one {x:α} {c:List T} (hc:c.length=z) (hr:R x c):IsL z h R (.sl 1 c) [x]:=
 ⟨[(x,⟨c,hc⟩)],rfl,.inr (by simp[slT,eR]),λp hp=>by rw[Xe]at hp;subst hp;exact hr⟩
end
noncomputable def TW (ts:List T):Option T:=g2 tD tD (λa b=>open Classical in if a=b/\EO a then some (bv true)else none) ts
theorem A0k {c c':List T} {d:Ds} (h:BG d c) (h':BG d c') (hf:EO d):TW [.ag c,.ag c']=some (bv true):=by
 show g2 _ _ _ _=_;rw[Dz (τ:=tD) (σ:=tD) ⟨c,rfl,h⟩ ⟨c',rfl,h'⟩,zy ⟨rfl,hf⟩]
theorem A0l:GOK Xa (G q) 84 TW:=Do λa b x y r ha hb hr=>by
 split at hr
 .rename_i hc;obtain⟨rfl,h1⟩:=hc;injection hr with hr;subst hr;obtain⟨c,rfl,hcx⟩:=ha;obtain⟨c',rfl,hcx'⟩:=hb;exact hSd x.depth _ _ (dE hcx hcx' h1 (Nat.le_refl _))
 .cases hr
noncomputable def TX (ts:List T):Option T:=g2 tK tK (λa b=>open Classical in if a=b/\a.length<=1000/\(∀k∈a,EO k)then some (bv true)else none) ts
theorem A0m {t u:T} {l:List Ds} (h:IsK t l) (h':IsK u l) (hl:l.length<=1000) (hf:∀k∈l,EO k):TX [t,u]=some (bv true):=by
 show g2 _ _ _ _=_;rw[Dz (τ:=tK) (σ:=tK) h h',zy ⟨rfl,hl,hf⟩]
theorem A0n:GOK Xa (G q) 85 TX:=Do λa b x y r ha hb hr=>by
 split at hr
 .rename_i hc;obtain⟨rfl,h1,h2⟩:=hc;injection hr with hr;subst hr;exact A0j (JJ x) _ _ (dF ha hb h1 h2 (Nat.le_refl _))
 .cases hr
structure OkD (d:Dfn):Prop where
 s:EO d.strict
 n:d.defaults.length<=1000
 d:∀k∈d.defaults,EO k
structure OkT (x:TyD):Prop where
 s:x.supers.length<=1000
 f:x.feats.length<=1000
noncomputable def QT:Tbl:=[(84,TW),(85,TX),(20,Kc)]
theorem A0o:As Xa (G q) QT:=.cons A0l (.cons A0n (.cons OK .nil))
theorem dH:Ctx Xa (G q) (orc QT):=A0o.ctx mixed
def SSf (n:Nat) (t u:T) (j:Nat):Ad:=⟨[(5,.t (iv (j:Int))),(1,.t u),(0,.t t)],[],0,n⟩
theorem lp4 (a1 a2 a3 a4:T) (r:List T):Aj true 4 [] (.t (.pt (a1::a2::a3::a4::r)))=some (.t (.ag [a1,a2,a3,a4])):=rfl
theorem A0p {t u:T} {L:List Dfn} (ht:Jb t L) (hu:Jb u L) (hl:L.length<=100000) (hok:∀d∈L,OkD d):A1 Xa (G q) 46 [t,u] (· = bv true):=by
 have l1:=ht.len;have l2:=hu.len;refine v7.call rfl ?_;(conv in aP=>cbv);refine Av AL ?_;simp -implicitDefEqProofs;refine Av AL ?_;simp -implicitDefEqProofs [l1,l2];refine BF (α:=Unit) (λ_=>⟨[(1,.t u),(0,.t t)],[],0,56⟩) (λ_=>True) (λ_=>rfl) ?_ ?_
 .refine Av AL ?_;simp -implicitDefEqProofs;refine BD ?_;refine Gv (SSf 56 t u) L.length (λ_=>rfl) ?_ rfl ?_ ?_
  .refine AQ rfl rfl ?_ ?_<;>simp -implicitDefEqProofs [SSf]
  .intro j hj
   obtain⟨d,hd⟩:∃d,L[j]?=some d:=⟨_,Xb hj⟩
   obtain⟨k1,k2,k3⟩:=hok d (Xd hd);obtain⟨c,r,i1,hc,_⟩:=ht.iaddr hd;obtain⟨c',r',i2,hc',_⟩:=hu.iaddr hd;obtain⟨a1,a2,a3,a4,tk,rfl,d1,d2⟩:=hc.six;obtain⟨b1,b2,b3,b4,uk,rfl,e1,e2⟩:=hc'.six;have g1:=A0k d1 e1 k1;have g2:=A0m d2 e2 k2 k3;have i1:Bd 6 (.t t) (.t (iv (j:Int)))=some (.t (.pt (sv d.name::a1::a2::a3::a4::tk::r))):=i1;have i2:Bd 6 (.t u) (.t (iv (j:Int)))=some (.t (.pt (sv d.name::b1::b2::b3::b4::uk::r'))):=i2;have e1:Xc.wrap ((j:Int)+1)=((j+1:Nat):Int):=AP (by omega) (by omega);refine Ap dH ?_;simp -implicitDefEqProofs [SSf,l1,hj,i1,i2,DY,lp4,QT,g1,g2,e1];refine AQ rfl rfl ?_ ?_<;>simp -implicitDefEqProofs
  .refine Ap AL ?_;simp -implicitDefEqProofs [SSf,l1];exact Am.mk () trivial (AQ rfl rfl (by simp -implicitDefEqProofs) (by simp -implicitDefEqProofs))
 .rintro _ _;refine Ap AL ?_;simp -implicitDefEqProofs
def SSt (t u:T) (j k:Nat):Ad:=⟨[(6,.t (iv (k:Int))),(5,.t (iv (j:Int))),(1,.t u),(0,.t t)],[],0,85⟩
theorem lp2 (a b:T) (r:List T):Aj true 2 [] (.t (.pt (a::b::r)))=some (.t (.ag [a,b])):=rfl
theorem A0q {t u:T} {L:List TyD} (ht:Lx t L) (hu:Lx u L) (hl:L.length<=100000) (hok:∀d∈L,OkT d):A1 Xa (G q) 45 [t,u] (· = bv true):=by
 have l1:=ht.len;have l1':=hu.len;refine uZ.call rfl ?_;(conv in aO=>cbv);refine Av AL ?_;simp -implicitDefEqProofs;refine Av AL ?_;simp -implicitDefEqProofs [l1,l1'];refine BF (α:=Unit) (λ_=>⟨[(1,.t u),(0,.t t)],[],0,85⟩) (λ_=>True) (λ_=>rfl) ?_ ?_
 .refine Av AL ?_;simp -implicitDefEqProofs;refine BD ?_;refine Gv (SSf 85 t u) L.length (λ_=>rfl) ?_ rfl ?_ ?_
  .refine AQ rfl rfl ?_ ?_<;>simp -implicitDefEqProofs [SSf]
  .intro j hj
   obtain⟨d,hd⟩:∃d,L[j]?=some d:=⟨_,Xb hj⟩
   obtain⟨k1,k2⟩:=hok d (Xd hd);obtain⟨c,R,i1,⟨U,E,rfl,u1,f1⟩,_⟩:=ht.iaddr hd;obtain⟨c',R',i1',⟨U',E',rfl,u2,f2⟩,_⟩:=hu.iaddr hd;have i1:Bd 3 (.t t) (.t (iv (j:Int)))=some (.t (.pt (sv d.name::U::E::R))):=i1;have i1':Bd 3 (.t u) (.t (iv (j:Int)))=some (.t (.pt (sv d.name::U'::E'::R'))):=i1';have g1:=Lw u1 u2 (by omega);have l2:AO (.t E)=some (.t (iv (d.feats.length:Int))):=f1.len;have l2':AO (.t E')=some (.t (iv (d.feats.length:Int))):=f2.len;have e1:Xc.wrap ((j:Int)+1)=((j+1:Nat):Int):=AP (by omega) (by omega);refine Av AL ?_;simp -implicitDefEqProofs [SSf,l1,hj];refine BF (α:=Unit) (λ_=>SSf 85 t u j) (λ_=>True) (λ_=>rfl) ?_ ?_
   .refine BD ?_;refine Av dH ?_;simp -implicitDefEqProofs [i1,i1',DY,QT,g1,l2,l2'];refine Av AL ?_;simp -implicitDefEqProofs;refine BD ?_;refine Gv (SSt t u j) d.feats.length (λ_=>rfl) ?_ rfl ?_ ?_
    .refine AQ rfl rfl ?_ ?_<;>simp -implicitDefEqProofs [SSt]
    .intro k hk
     obtain⟨y,hy⟩:∃y,d.feats[k]?=some y:=⟨_,Xb hk⟩
     have i2:Bd 2 (.t E) (.t (iv (k:Int)))=some (.t (.pt (sv y.1::sv y.2::AU eFt d.feats k))):=f1.iaddr hy .i64;have i2':Bd 2 (.t E') (.t (iv (k:Int)))=some (.t (.pt (sv y.1::sv y.2::AU eFt d.feats k))):=f2.iaddr hy .i64;have e2:Xc.wrap ((k:Int)+1)=((k+1:Nat):Int):=AP (by omega) (by omega);refine Ap AL ?_;simp -implicitDefEqProofs [SSt,i1,i1',DY,l2,hk,i2,i2',lp2,eq2,e2];refine AQ rfl rfl ?_ ?_<;>simp -implicitDefEqProofs
    .refine Ap AL ?_;simp -implicitDefEqProofs [SSt,i1,DY,l2];exact Am.mk () trivial (AQ rfl rfl (by simp -implicitDefEqProofs [SSf]) (by simp -implicitDefEqProofs [SSf]))
   .rintro _ _;refine Ap AL ?_;simp -implicitDefEqProofs [SSf,e1];refine AQ rfl rfl ?_ ?_<;>simp -implicitDefEqProofs
  .refine Ap AL ?_;simp -implicitDefEqProofs [SSf,l1];exact Am.mk () trivial (AQ rfl rfl (by simp -implicitDefEqProofs) (by simp -implicitDefEqProofs))
 .rintro _ _;refine Ap AL ?_;simp -implicitDefEqProofs
noncomputable def MU (ts:List T):Option T:=open Classical in match ts with
 | [t,u]=>if ∃L:List Dfn,Jb t L/\Jb u L/\L.length<=100000/\∀d∈L,OkD d then some (bv true)else none
 | _=>none
theorem OQ {t u:T} {L:List Dfn} (ht:Jb t L) (hu:Jb u L) (hl:L.length<=100000) (hok:∀d∈L,OkD d):MU [t,u]=some (bv true):=by
 unfold MU;simp only;rw[zy ⟨L,ht,hu,hl,hok⟩]
theorem dI:GOK Xa (G q) 46 MU:=λargs r h=>by
 unfold MU at h;split at h
 .split at h
  .rename_i hc;obtain⟨L,h1,h2,h3,h4⟩:=hc;injection h with h;subst h;exact A0p h1 h2 h3 h4
  .cases h
 .cases h
noncomputable def OR (ts:List T):Option T:=open Classical in match ts with
 | [t,u]=>if ∃L:List TyD,Lx t L/\Lx u L/\L.length<=100000/\∀d∈L,OkT d then some (bv true)else none
 | _=>none
theorem A0r {t u:T} {L:List TyD} (ht:Lx t L) (hu:Lx u L) (hl:L.length<=100000) (hok:∀d∈L,OkT d):OR [t,u]=some (bv true):=by
 unfold OR;simp only;rw[zy ⟨L,ht,hu,hl,hok⟩]
theorem A0s:GOK Xa (G q) 45 OR:=λargs r h=>by
 unfold OR at h;split at h
 .split at h
  .rename_i hc;obtain⟨L,h1,h2,h3,h4⟩:=hc;injection h with h;subst h;exact A0q h1 h2 h3 h4
  .cases h
 .cases h
structure HW (m:ML):Prop where
 n0:m.imps.length<=100000
 n1:m.typs.length<=100000
 n2:m.tmps.length<=100000
 n3:m.ents.length<=100000
 n4:m.lexs.length<=100000
 n5:m.ruls.length<=100000
 n6:m.roos.length<=100000
 n7:m.chks.length<=100000
 n8:m.drps.length<=100000
 p1:∀d∈m.typs,OkT d
 p2:∀d∈m.tmps,OkD d
 p3:∀d∈m.ents,d.1.length<=100000/\OkD d.2
 p4:∀d∈m.lexs,d.1.pairs.length<=1000000/\OkD d.2
 p5:∀d∈m.ruls,OkD d
 p6:∀d∈m.roos,OkD d
 p7:∀d∈m.chks,d.length<=100000
noncomputable def QU:Tbl:=[(20,Kc),(46,MU),(13,OL)]
theorem TY:Ctx Xa (G q) (orc QU):=(As.cons OK (.cons dI (.cons cN .nil))).ctx mixed
theorem dJ (a1 a2 a3 a4 a5 a6:T):KY 59 6 [.string ⟨#[]⟩,.int .i64 0,.string ⟨#[]⟩,.slice none 0 0,.slice none 0 0,.slice none 0 0] 1 [(0,.t (.ag [a1,a2,a3,a4,a5,a6]))]=some (.t (.sl 1 [a1,a2,a3,a4,a5,a6])):=rfl
section
variable (H : Ab)
theorem lhB (a b:T) (r:List T):Aj true 2 H (.t (.pt (a::b::r)))=some (.t (.ag [a,b])):=rfl
theorem lhF (a1 a2 a3 a4 a5 a6:T) (r:List T):Aj true 6 H (.t (.pt (a1::a2::a3::a4::a5::a6::r)))=some (.t (.ag [a1,a2,a3,a4,a5,a6])):=rfl
theorem lhA (a:T) (r:List T):Aj false 1 H (.t (.pt (a::r)))=some (.t a):=rfl
end
theorem A0t {m:ML} {c c':List T} (hm:Cn m c) (hm':Cn m c') (h:HW m):A1 Xa (G q) 47 [.ag c,.ag c'] (· = bv true):=by
 obtain⟨x0,x1,x2,T3,T4,x5,x6,T7,x8,⟨rfl,_,_,_,t3,t4,_,_,t7,_⟩⟩:=hm;obtain⟨y0,y1,y2,U3,U4,y5,y6,U7,y8,⟨rfl,_,_,_,u3,u4,_,_,u7,_⟩⟩:=hm';have l3:=t3.len;have l4:=t4.len;have l7:=t7.len;have m3:=u3.len;have m4:=u4.len;have m7:=u7.len;have p3:=h.p3;have p4:=h.p4;have p7:=h.p7;have n3:=h.n3;have n4:=h.n4;have n7:=h.n7;generalize m.ents=D3 at *;generalize m.lexs=D4 at *;generalize m.chks=D7 at *;generalize m.name=nm at *;have hc:Bj (.t (.ag [sv nm,x0,x1,x2,T3,T4,x5,x6,T7,x8]))=some [.t (sv nm),.t x0,.t x1,.t x2,.t T3,.t T4,.t x5,.t x6,.t T7,.t x8]:=rfl;have hc':Bj (.t (.ag [sv nm,y0,y1,y2,U3,U4,y5,y6,U7,y8]))=some [.t (sv nm),.t y0,.t y1,.t y2,.t U3,.t U4,.t y5,.t y6,.t U7,.t y8]:=rfl
 obtain⟨H,hH⟩:∃H:Ab,H=[(1,.cells 51 [.t (sv nm),.t y0,.t y1,.t y2,.t U3,.t U4,.t y5,.t y6,.t U7,.t y8]),(0,.cells 51 [.t (sv nm),.t x0,.t x1,.t x2,.t T3,.t T4,.t x5,.t x6,.t T7,.t x8])]:=⟨_,rfl⟩
 have q3:Aj false 1 H (.ptr 0 4)=some (.t T3):=by rw[hH];rfl
 have r3:Aj false 1 H (.ptr 1 4)=some (.t U3):=by rw[hH];rfl
 have q4:Aj false 1 H (.ptr 0 5)=some (.t T4):=by rw[hH];rfl
 have r4:Aj false 1 H (.ptr 1 5)=some (.t U4):=by rw[hH];rfl
 have q7:Aj false 1 H (.ptr 0 8)=some (.t T7):=by rw[hH];rfl
 have r7:Aj false 1 H (.ptr 1 8)=some (.t U7):=by rw[hH];rfl
 refine v8.call rfl ?_;(conv in aQ=>cbv);refine Av AL ?_;simp -implicitDefEqProofs [hc,hc'];refine MC.sub (s':=⟨[(3,.ptr 1 0),(2,.ptr 0 0)],H,2,130⟩) (by rw[hH];exact sub_env (by simp -implicitDefEqProofs)) rfl ?_;clear hH;refine Av AL ?_;simp -implicitDefEqProofs [q3,r3,q4,r4,q7,r7,l3,l4,l7,m3,m4,m7];refine BF (α:=Unit) (λ_=>⟨[(3,.ptr 1 0),(2,.ptr 0 0)],H,2,130⟩) (λ_=>True) (λ_=>rfl) ?_ ?_
 .refine Av AL ?_;simp -implicitDefEqProofs;refine BD ?_;refine Gv (SSa H 2 130 5) D3.length (λ_=>rfl) ?_ rfl ?_ ?_
  .exact sub_env (by simp -implicitDefEqProofs [SSa])
  .intro k hk
   obtain⟨y,hy⟩:∃y,D3[k]?=some y:=⟨_,Xb hk⟩
   obtain⟨k1,k2⟩:=p3 y (Xd hy);obtain⟨c,r,i1,⟨U,cd,rfl,s1,s2⟩,_⟩:=t3.iaddr hy;obtain⟨c',r',i2,⟨U',cd',rfl,s1',s2'⟩,_⟩:=u3.iaddr hy;have g1:=Lw s1 s1' (by omega)
   have ok1:∀d∈[y.2],OkD d:=λd hd=>by rw[Xe]at hd;subst hd;exact k2
   obtain⟨a2,a3,a4,a5,a6,hd,_⟩:=s2.six;obtain⟨b2,b3,b4,b5,b6,hd',_⟩:=s2'.six;have g2:=OQ (IsL.one (h:=by omega) (by rw[hd];rfl) s2) (IsL.one (h:=by omega) (by rw[hd'];rfl) s2') (by simp) ok1;rw[hd,hd']at g2;rw[hd]at i1;rw[hd']at i2
   obtain⟨a1,ha1⟩:∃a1,a1=sv y.2.name:=⟨_,rfl⟩
   rw[<-ha1]at i1 i2 g2;have i1:Bd 7 (.t T3) (.t (iv (k:Int)))=some (.t (.pt (U::a1::a2::a3::a4::a5::a6::r))):=i1;have i2:Bd 7 (.t U3) (.t (iv (k:Int)))=some (.t (.pt (U'::a1::b2::b3::b4::b5::b6::r'))):=i2;have e2:Xc.wrap ((k:Int)+1)=((k+1:Nat):Int):=AP (by omega) (by omega);refine Ap TY ?_;simp -implicitDefEqProofs [SSa,q3,r3,l3,hk,i1,i2,lhA,lhF,dJ,QU,g1,g2,e2];exact sub_env (by simp -implicitDefEqProofs)
  .refine Ap AL ?_;simp -implicitDefEqProofs [SSa,q3,l3];exact Am.mk () trivial (sub_env (by simp -implicitDefEqProofs))
 rintro _ _;refine BF (α:=Unit) (λ_=>⟨[(3,.ptr 1 0),(2,.ptr 0 0)],H,2,130⟩) (λ_=>True) (λ_=>rfl) ?_ ?_
 .refine Av AL ?_;simp -implicitDefEqProofs;refine BD ?_;refine Gv (SSa H 2 130 6) D4.length (λ_=>rfl) ?_ rfl ?_ ?_
  .exact sub_env (by simp -implicitDefEqProofs [SSa])
  .intro k hk
   obtain⟨y,hy⟩:∃y,D4[k]?=some y:=⟨_,Xb hk⟩
   obtain⟨k1,k2⟩:=p4 y (Xd hy);obtain⟨c,r,i1,⟨ca,cd,rfl,s1,s2⟩,_⟩:=t4.iaddr hy;obtain⟨c',r',i2,⟨ca',cd',rfl,s1',s2'⟩,_⟩:=u4.iaddr hy;have g1:=TP s1 s1' k1
   have ok1:∀d∈[y.2],OkD d:=λd hd=>by rw[Xe]at hd;subst hd;exact k2
   obtain⟨a2,a3,a4,a5,a6,hd,_⟩:=s2.six;obtain⟨b2,b3,b4,b5,b6,hd',_⟩:=s2'.six;obtain⟨f,rfl,_⟩:=s1;obtain⟨f',rfl,_⟩:=s1';have g2:=OQ (IsL.one (h:=by omega) (by rw[hd];rfl) s2) (IsL.one (h:=by omega) (by rw[hd'];rfl) s2') (by simp) ok1;rw[hd,hd']at g2;rw[hd]at i1;rw[hd']at i2
   obtain⟨a1,ha1⟩:∃a1,a1=sv y.2.name:=⟨_,rfl⟩
   obtain⟨b1,hb1⟩:∃b1,b1=iv y.1.kind:=⟨_,rfl⟩
   rw[<-ha1]at i1 i2 g2;rw[<-hb1]at i1 i2 g1;have i1:Bd 8 (.t T4) (.t (iv (k:Int)))=some (.t (.pt (b1::f::a1::a2::a3::a4::a5::a6::r))):=i1;have i2:Bd 8 (.t U4) (.t (iv (k:Int)))=some (.t (.pt (b1::f'::a1::b2::b3::b4::b5::b6::r'))):=i2;have e2:Xc.wrap ((k:Int)+1)=((k+1:Nat):Int):=AP (by omega) (by omega);refine Ap TY ?_;simp -implicitDefEqProofs [SSa,q4,r4,l4,hk,i1,i2,lhA,lhB,lhF,dJ,QU,g1,g2,e2];exact sub_env (by simp -implicitDefEqProofs)
  .refine Ap AL ?_;simp -implicitDefEqProofs [SSa,q4,l4];exact Am.mk () trivial (sub_env (by simp -implicitDefEqProofs))
 rintro _ _;refine BF (α:=Unit) (λ_=>⟨[(3,.ptr 1 0),(2,.ptr 0 0)],H,2,130⟩) (λ_=>True) (λ_=>rfl) ?_ ?_
 .refine Av AL ?_;simp -implicitDefEqProofs;refine BD ?_;refine Gv (SSa H 2 130 7) D7.length (λ_=>rfl) ?_ rfl ?_ ?_
  .exact sub_env (by simp -implicitDefEqProofs [SSa])
  .intro k hk
   obtain⟨y,hy⟩:∃y,D7[k]?=some y:=⟨_,Xb hk⟩
   have k1:=p7 y (Xd hy);obtain⟨c,r,i1,⟨U,rfl,s1⟩,_⟩:=t7.iaddr hy;obtain⟨c',r',i2,⟨U',rfl,s1'⟩,_⟩:=u7.iaddr hy;have g1:=Lw s1 s1' (by omega);have i1:Bd 1 (.t T7) (.t (iv (k:Int)))=some (.t (.pt (U::r))):=i1;have i2:Bd 1 (.t U7) (.t (iv (k:Int)))=some (.t (.pt (U'::r'))):=i2;have e2:Xc.wrap ((k:Int)+1)=((k+1:Nat):Int):=AP (by omega) (by omega);refine Ap TY ?_;simp -implicitDefEqProofs [SSa,q7,r7,l7,hk,i1,i2,lhA,QU,g1,e2];exact sub_env (by simp -implicitDefEqProofs)
  .refine Ap AL ?_;simp -implicitDefEqProofs [SSa,q7,l7];exact Am.mk () trivial (sub_env (by simp -implicitDefEqProofs))
 rintro _ _;refine Ap AL ?_;simp -implicitDefEqProofs
noncomputable def TZ (ts:List T):Option T:=g2 tMl tMl (λa b=>open Classical in if a=b/\HW a then some (bv true)else none) ts
theorem A0u {m:ML} {c c':List T} (hm:Cn m c) (hm':Cn m c') (h:HW m):TZ [.ag c,.ag c']=some (bv true):=by
 show g2 _ _ _ _=_;rw[Dz (τ:=tMl) (σ:=tMl) ⟨c,rfl,hm⟩ ⟨c',rfl,hm'⟩,zy ⟨rfl,h⟩]
theorem A0v:GOK Xa (G q) 47 TZ:=Do λa b x y r ha hb hr=>by
 split at hr
 .rename_i hc;obtain⟨rfl,h1⟩:=hc;injection hr with hr;subst hr;obtain⟨c,rfl,hcx⟩:=ha;obtain⟨c',rfl,hcx'⟩:=hb;exact A0t hcx hcx' h1
 .cases hr
noncomputable def dK:Tbl:=[(20,Kc),(46,MU),(45,OR),(47,TZ)]
theorem A0w:Ctx Xa (G q) (orc dK):=(As.cons OK (.cons dI (.cons A0s (.cons A0v .nil)))).ctx mixed
theorem A0x {m:ML} {c c':List T} (hm:Cn m c) (hm':Cn m c') (h:HW m):A1 Xa (G q) 19 [.ag c,.ag c'] (· = bv true):=by
 have gl:=A0u hm hm' h;obtain⟨T0,T1,T2,T3,T4,T5,T6,T7,T8,⟨rfl,t0,t1,t2,t3,t4,t5,t6,t7,t8⟩⟩:=hm;obtain⟨U0,U1,U2,U3,U4,U5,U6,U7,U8,⟨rfl,u0,u1,u2,u3,u4,u5,u6,u7,u8⟩⟩:=hm';obtain⟨n0,n1,n2,n3,n4,n5,n6,n7,n8,p1,p2,p3,p4,p5,p6,p7⟩:=h;have g0:=Lw t0 u0 (by omega);have g1:=A0r t1 u1 n1 p1;have g2:=OQ t2 u2 n2 p2;have g5:=OQ t5 u5 n5 p5;have g6:=OQ t6 u6 n6 p6;have g8:=Lw t8 u8 (by omega);generalize m.name=nm at gl ⊢;have hc:Bj (.t (.ag [sv nm,T0,T1,T2,T3,T4,T5,T6,T7,T8]))=some [.t (sv nm),.t T0,.t T1,.t T2,.t T3,.t T4,.t T5,.t T6,.t T7,.t T8]:=rfl;have hc':Bj (.t (.ag [sv nm,U0,U1,U2,U3,U4,U5,U6,U7,U8]))=some [.t (sv nm),.t U0,.t U1,.t U2,.t U3,.t U4,.t U5,.t U6,.t U7,.t U8]:=rfl
 obtain⟨H,hH⟩:∃H:Ab,H=[(1,.cells 51 [.t (sv nm),.t U0,.t U1,.t U2,.t U3,.t U4,.t U5,.t U6,.t U7,.t U8]),(0,.cells 51 [.t (sv nm),.t T0,.t T1,.t T2,.t T3,.t T4,.t T5,.t T6,.t T7,.t T8])]:=⟨_,rfl⟩
 have ld:∀j,Aj false 1 H (.ptr 0 j)=([.t (sv nm),.t T0,.t T1,.t T2,.t T3,.t T4,.t T5,.t T6,.t T7,.t T8]:List PV)[j]?:=λj=>by rw[hH];rfl
 have ld1:∀j,Aj false 1 H (.ptr 1 j)=([.t (sv nm),.t U0,.t U1,.t U2,.t U3,.t U4,.t U5,.t U6,.t U7,.t U8]:List PV)[j]?:=λj=>by rw[hH];rfl
 have la:Aj true 10 H (.ptr 0 0)=some (.t (.ag [sv nm,T0,T1,T2,T3,T4,T5,T6,T7,T8])):=by rw[hH];rfl
 have la1:Aj true 10 H (.ptr 1 0)=some (.t (.ag [sv nm,U0,U1,U2,U3,U4,U5,U6,U7,U8])):=by rw[hH];rfl
 refine uY.call rfl ?_;(conv in aN=>cbv);refine Av AL ?_;simp -implicitDefEqProofs [hc,hc'];refine MC.sub (s':=⟨[(3,.ptr 1 0),(2,.ptr 0 0)],H,2,57⟩) (by rw[hH];exact sub_env (by simp -implicitDefEqProofs)) rfl ?_;refine Ap A0w ?_;simp -implicitDefEqProofs [ld,ld1,la,la1,dK,g0,g1,g2,g5,g6,g8,gl]
noncomputable def Ua (ts:List T):Option T:=g2 tMl tMl (λa b=>open Classical in if a=b/\HW a then some (bv true)else none) ts
theorem A0y {m:ML} {c c':List T} (hm:Cn m c) (hm':Cn m c') (h:HW m):Ua [.ag c,.ag c']=some (bv true):=by
 show g2 _ _ _ _=_;rw[Dz (τ:=tMl) (σ:=tMl) ⟨c,rfl,hm⟩ ⟨c',rfl,hm'⟩,zy ⟨rfl,h⟩]
theorem A0z:GOK Xa (G q) 19 Ua:=Do λa b x y r ha hb hr=>by
 split at hr
 .rename_i hc;obtain⟨rfl,h1⟩:=hc;injection hr with hr;subst hr;obtain⟨c,rfl,hcx⟩:=ha;obtain⟨c',rfl,hcx'⟩:=hb;exact A0x hcx hcx' h1
 .cases hr
theorem ten (c:List T) (h:c.length=10):∃a0 a1 a2 a3 a4 a5 a6 a7 a8 a9,c=[a0,a1,a2,a3,a4,a5,a6,a7,a8,a9]:=by
 match c,h with
 | [a0,a1,a2,a3,a4,a5,a6,a7,a8,a9],_=>exact⟨_,_,_,_,_,_,_,_,_,_,rfl⟩
theorem A1a (a0 a1 a2 a3 a4 a5 a6 a7 a8 a9:T) (r:List T):Aj true 10 [] (.t (.pt (a0::a1::a2::a3::a4::a5::a6::a7::a8::a9::r)))=some (.t (.ag [a0,a1,a2,a3,a4,a5,a6,a7,a8,a9])):=rfl
def QV (n:Nat) (t u:T) (j:Nat):Ad:=⟨[(5,.t (iv (j:Int))),(1,.t u),(0,.t t)],[],0,n⟩
theorem A1b {t u:T} {L:List ML} (ht:DD t L) (hu:DD u L) (hl:L.length<=100000) (hok:∀m∈L,HW m):A1 Xa (G q) 16 [t,u] (· = bv true):=by
 have l1:=ht.len;have l2:=hu.len;have C:Ctx Xa (G q) (orc [(19,Ua)]):=(As.cons A0z .nil).ctx mixed;refine uX.call rfl ?_;(conv in aM=>cbv);refine Av AL ?_;simp -implicitDefEqProofs;refine Av AL ?_;simp -implicitDefEqProofs [l1,l2];refine BF (α:=Unit) (λ_=>⟨[(1,.t u),(0,.t t)],[],0,27⟩) (λ_=>True) (λ_=>rfl) ?_ ?_
 .refine Av AL ?_;simp -implicitDefEqProofs;refine BD ?_;refine Gv (QV 27 t u) L.length (λ_=>rfl) ?_ rfl ?_ ?_
  .refine AQ rfl rfl ?_ ?_<;>simp -implicitDefEqProofs [QV]
  .intro j hj
   obtain⟨m,hm⟩:∃m,L[j]?=some m:=⟨_,Xb hj⟩
   obtain⟨c,r,i1,hc,hcl⟩:=ht.iaddr hm;obtain⟨c',r',i2,hc',hcl'⟩:=hu.iaddr hm;have g:=A0y hc hc' (hok m (Xd hm));obtain⟨a0,a1,a2,a3,a4,a5,a6,a7,a8,a9,rfl⟩:=ten c hcl;obtain⟨b0,b1,b2,b3,b4,b5,b6,b7,b8,b9,rfl⟩:=ten c' hcl';have i1:Bd 10 (.t t) (.t (iv (j:Int)))=some (.t (.pt (a0::a1::a2::a3::a4::a5::a6::a7::a8::a9::r))):=i1;have i2:Bd 10 (.t u) (.t (iv (j:Int)))=some (.t (.pt (b0::b1::b2::b3::b4::b5::b6::b7::b8::b9::r'))):=i2;have e1:Xc.wrap ((j:Int)+1)=((j+1:Nat):Int):=AP (by omega) (by omega);refine Ap C ?_;simp -implicitDefEqProofs [QV,l1,hj,i1,i2,A1a,g,e1];refine AQ rfl rfl ?_ ?_<;>simp -implicitDefEqProofs
  .refine Ap AL ?_;simp -implicitDefEqProofs [QV,l1];exact Am.mk () trivial (AQ rfl rfl (by simp -implicitDefEqProofs) (by simp -implicitDefEqProofs))
 .rintro _ _;refine Ap AL ?_;simp -implicitDefEqProofs
noncomputable def G5 (ts:List T):Option T:=open Classical in match ts with
 | [t,u]=>if ∃L:List ML,DD t L/\DD u L/\L.length<=100000/\∀m∈L,HW m then some (bv true)else none
 | _=>none
theorem OS {t u:T} {L:List ML} (ht:DD t L) (hu:DD u L) (hl:L.length<=100000) (hok:∀m∈L,HW m):G5 [t,u]=some (bv true):=by
 unfold G5;simp only;rw[zy ⟨L,ht,hu,hl,hok⟩]
theorem Ub:GOK Xa (G q) 16 G5:=λargs r h=>by
 unfold G5 at h;split at h
 .split at h
  .rename_i hc;obtain⟨L,h1,h2,h3,h4⟩:=hc;injection h with h;subst h;exact A1b h1 h2 h3 h4
  .cases h
 .cases h
theorem dL (a b c d:UInt8) (r:List UInt8):Lib.hasPrefix (c::d::r) [a,b]=((a==c)&&(b==d)):=by
 simp[Lib.hasPrefix,Xf]
theorem dM (a b c:UInt8):Lib.hasPrefix [c] [a,b]=false:=by
 simp[Lib.hasPrefix,Xf]
theorem HY (c d:UInt8) (r:List UInt8):A8 (c::d::r)=if((60==c)&&(33==d))||((33==c)&&(62==d))then(2,0)else if E1.contains c then(1,0)else(0,8):=by
 unfold A8;rw[dL,dL];rfl
theorem L3 (c:UInt8):A8 [c]=if E1.contains c then(1,0)else(0,8):=by
 unfold A8;rw[dM,dM];rfl
theorem D2.fine:∀{d:Ds},D2 d->EO d:=λh=>by
 induction h with
 | mk op name path kids h1 h2 h3 h4 h5 ih=>exact .mk op name path kids h2 h4 ih
end Go.Proofs.YtobnacghaamfoaaGreatDoor
