/- Auxiliary facts. -/
import Derived.Test.YtobnacghaamfoaaGreatDoorVGQ46
import Derived.Test.YtobnacghaamfoaaGreatDoorVGQ39
import Derived.Test.YtobnacghaamfoaaGreatDoorVGQ33
import Derived.Test.YtobnacghaamfoaaGreatDoorVGQ51
import Derived.Test.YtobnacghaamfoaaGreatDoorVGQ52
set_option linter.unusedSimpArgs false
set_option maxRecDepth 100000
set_option maxHeartbeats 0
set_option linter.unusedVariables false
open Go.Proofs.Tryz renaming prog->Xa,underlying3->Xi
open Go.IntKind renaming i64->Xb
open Int renaming eq_ofNat_of_zero_le->Xc,toNat_natCast->Xh
open List renaming length_map->Xd,mem_of_mem_take->Xf,length_take->Xg,getElem?_eq_getElem->Xj
open Go.Abs renaming upd->Xe
open Bool renaming eq_iff_iff->Xk
namespace Go.Proofs.YtobnacghaamfoaaGreatDoor
open Go Go.Abs Go.ChangeShapes Go.WideShapes Go.ChangeAt Go.RowKit
theorem mQ {W:World} {base:Nat} {v:Value} (h:Value.okWide Xa W .any base 3 v):∃n,v = .int .i64 n/\(-9223372036854775808<=n/\n<=9223372036854775807):=by
 obtain⟨n,rfl⟩:=okWide_int Xi h;refine⟨n,rfl,?_⟩;unfold Value.okWide at h;have hu:=Xi;unfold Cell.okWide Cell.ok at h;generalize Xa.underlying 3=d at h hu;subst hu
 have e1:Xb.max=9223372036854775807:=by decide
 have e2:Xb.min = -9223372036854775808:=by decide
 have h':Xb=Xb/\Xb.has n:=h;have h2:=h'.2;unfold IntKind.has at h2;rw[e1,e2]at h2;simpa using h2
open Go Go.Abs
variable {q : Gl}
section
variable {t : T} {l : List Tok} {i : Nat}
theorem B4j (ht:IsS Aw t l) (s:ByteArray):A1 Xa (G q) 27 [t,iv (i:Int),sv s] (· = bv (Be (l.map kt) i s.data.toList)):=by
 have hlen:AO (.t t)=some (.t (iv (l.length:Int))):=ht.len;refine vE.runs c0 rfl ?_;by_cases hi:l.length<=i
 .rw[Tw hi]
  have hi1:¬((i:Int)<(l.length:Int)):=by omega
  have hi2:¬i<l.length:=by omega
  (conv in Qv=>cbv);simp -implicitDefEqProofs [hlen,hi1,hi2]
 .obtain⟨x,hx⟩:∃x,l[i]?=some x:=⟨_,Xj (by omega)⟩
  rw[Tv hx];obtain⟨r,hr⟩:=IX ht hx
  have hi1:((i:Int)<(l.length:Int)):=by omega
  have hi2:i<l.length:=by omega
  have hts:(x.t==s.toList)=decide (x.t=s.data.toList):=by rw[HI];exact Xk.2 (by simp)
  by_cases h5:x.k=5
  .have hb:(x.k==5)=true:=by rw[h5];rfl
   have hd:decide (x.k=5)=true:=by rw[h5];rfl
   (conv in Qv=>cbv);simp -implicitDefEqProofs [DY,hlen,hi1,hi2,hr,hb,hd,hts]
  .have hb:(x.k==5)=false:=by simpa using h5
   have hd:decide (x.k=5)=false:=by simpa using h5
   (conv in Qv=>cbv);simp -implicitDefEqProofs [DY,hlen,hi1,hi2,hr,hb,hd]
theorem B4k (ht:IsS Aw t l) (k:Int):A1 Xa (G q) 26 [t,iv (i:Int),iv k] (· = bv (EP (l.map kt) i k)):=by
 have hlen:AO (.t t)=some (.t (iv (l.length:Int))):=ht.len;refine vD.runs c0 rfl ?_;by_cases hi:l.length<=i
 .rw[eH hi]
  have hi1:¬((i:Int)<(l.length:Int)):=by omega
  have hi2:¬i<l.length:=by omega
  (conv in SY=>cbv);simp -implicitDefEqProofs [hlen,hi1,hi2]
 .obtain⟨x,hx⟩:∃x,l[i]?=some x:=⟨_,Xj (by omega)⟩
  rw[eG hx];obtain⟨r,hr⟩:=IX ht hx
  have hi1:((i:Int)<(l.length:Int)):=by omega
  have hi2:i<l.length:=by omega
  have hb:(x.k==k)=decide (x.k=k):=rfl
  (conv in SY=>cbv);simp -implicitDefEqProofs [DY,hlen,hi1,hi2,hr,hb]
theorem B4l (ht:IsS Aw t l):A1 Xa (G q) 25 [t,iv (i:Int)] (· = iv (Fz (l.map kt) i)):=by
 have hlen:AO (.t t)=some (.t (iv (l.length:Int))):=ht.len;refine vC.runs c0 rfl ?_;unfold Fz;rw[Xd];by_cases hi:l.length<=i
 .have hi1:((l.length:Int)<=(i:Int)):=by omega
  (conv in SX=>cbv);simp -implicitDefEqProofs [hlen,hi1,hi]
 .have hi1:¬((l.length:Int)<=(i:Int)):=by omega
  (conv in SX=>cbv);simp -implicitDefEqProofs [hlen,hi1,hi]
theorem B4m (ht:IsS Aw t l):GOK Xa (G q) 27 (MX l t):=λargs r h=>by
 unfold MX at h;split at h
 .split at h
  .rename_i hc;obtain⟨rfl,h0⟩:=hc;injection h with h;subst h;obtain⟨n,rfl⟩:=Xc h0;exact B4j ht _
  .cases h
 .cases h
theorem B4n (ht:IsS Aw t l):GOK Xa (G q) 26 (Ki l t):=λargs r h=>by
 unfold Ki at h;split at h
 .split at h
  .rename_i hc;obtain⟨rfl,h0⟩:=hc;injection h with h;subst h;obtain⟨n,rfl⟩:=Xc h0;exact B4k ht _
  .cases h
 .cases h
theorem B4o (ht:IsS Aw t l):GOK Xa (G q) 25 (Kj l t):=λargs r h=>by
 unfold Kj at h;split at h
 .split at h
  .rename_i hc;obtain⟨rfl,h0⟩:=hc;injection h with h;subst h;obtain⟨n,rfl⟩:=Xc h0;exact B4l ht
  .cases h
 .cases h
noncomputable def GL (l:List Tok) (t:T):Tbl:=[(27,MX l t),(26,Ki l t),(25,Kj l t)]
theorem mR (ht:IsS Aw t l):As Xa (G q) (GL l t):=.cons (B4m ht) (.cons (B4n ht) (.cons (B4o ht) .nil))
theorem B4p (ht:IsS Aw t l):Ctx Xa (G q) (orc (GL l t)):=(mR ht).ctx mixed
theorem PB (ht:IsS Aw t l) (k:Int):(EP (l.map kt) i k=true/\∃s r,AJ (l.map kt) i k = .ok (s,i+1)/\i<l.length/\Bd 3 (.t t) (.t (.v (.int .i64 (i:Int))))=some (.t (.pt (iv k::sv s::r)))) \/
  (EP (l.map kt) i k=false/\AJ (l.map kt) i k = .error (Fz (l.map kt) i)/\Fz (l.map kt) i≠0):=by
 cases hk:EP (l.map kt) i k with
 | false=>
  refine .inr ⟨rfl,UC hk,?_⟩;unfold Fz;split<;>decide
 | true=>
  left
  cases hx:l[i]? with
  | none=>rw[eH (by simpa using hx)]at hk;cases hk
  | some x=>
   rw[eG hx]at hk;have hk:=of_decide_eq_true hk;obtain⟨r,hr⟩:=IX ht hx;refine⟨rfl,bs x.t,iv (x.l:Int)::r,?_,(List.getElem?_eq_some_iff.1 hx).1,by rw[hr,hk]⟩;unfold AJ;rw[Gy,hx];simp[hk]
end
theorem bq2 (Φ:A7) (H:Ab) (nx:Nat) (a b:ByteArray):Bk Φ H nx (.build [(0,1),(1,1)] [.string ⟨#[]⟩,.string ⟨#[]⟩] [0,1]) [.t (sv a),.t (sv b)]=some (.t (.ag [sv a,sv b])):=rfl
def GM (L:List KT) (p:Nat) (s:ByteArray):Bool:=match AJ L p 1 with
 | .ok (x,_)=>decide (x=s)
 | .error _=>false
section
variable {t : T} {l : List Tok} {i : Nat}
theorem B4q (a b:ByteArray):(a.toList==b.toList)=decide (a=b):=by
 rw[HI,HI];apply Xk.2;simp only[beq_iff_eq,decide_eq_true_eq];constructor
 .intro h;cases a;cases b;congr 1;exact Array.toList_inj.1 h
 .rintro rfl;rfl
theorem B4r (ht:IsS Aw t l) (s:ByteArray):A1 Xa (G q) 24 [t,iv (i:Int),sv s] (· = bv (GM (l.map kt) i s)):=by
 have gk:Ki l t [t,iv (i:Int),iv 1]=_:=Uf (l:=l) (t:=t) (i:=i) 1;refine vB.runs (B4p ht) rfl ?_;rcases PB (l:=l) (i:=i) ht 1 with⟨hk,x,r,htk,hjl,hia⟩ | ⟨hk,htk,hw⟩
 .have e:GM (l.map kt) i s=decide (x=s):=by unfold GM;rw[htk]
  rw[e];have hd:=B4q x s
  (conv in SV=>cbv);simp -implicitDefEqProofs [GL,gk,hk,hia,DY,hd]
 .have e:GM (l.map kt) i s=false:=by unfold GM;rw[htk]
  rw[e]
  (conv in SV=>cbv);simp -implicitDefEqProofs [GL,gk,hk]
noncomputable def KL (l:List Tok) (t:T) (ts:List T):Option T:=open Classical in match ts with
 | [x,.v (.int .i64 i),.v (.string s)]=>if x=t/\0<=i then some (bv (GM (l.map kt) i.toNat s))else none
 | _=>none
theorem Vt (s:ByteArray):KL l t [t,iv (i:Int),sv s]=some (bv (GM (l.map kt) i s)):=by
 unfold KL;simp
theorem B4s (ht:IsS Aw t l):GOK Xa (G q) 24 (KL l t):=λargs r h=>by
 unfold KL at h;split at h
 .split at h
  .rename_i hc;obtain⟨rfl,h0⟩:=hc;injection h with h;subst h;obtain⟨n,rfl⟩:=Xc h0;exact B4r ht _
  .cases h
 .cases h
noncomputable def FG (l:List Tok) (t:T):Tbl:=(24,KL l t)::GL l t
theorem B4t (ht:IsS Aw t l):As Xa (G q) (FG l t):=.cons (B4s ht) (mR ht)
theorem B4u (ht:IsS Aw t l):Ctx Xa (G q) (orc (FG l t)):=(B4t ht).ctx mixed
end
section
variable {t : T} {l : List Tok} {i : Nat}
theorem tsC (a b:ByteArray):KY Kv 2 [.string ⟨#[]⟩,.string ⟨#[]⟩] 1 [(0,.t (.ag [sv a,sv b]))]=some (.t (.sl 1 [sv a,sv b])):=rfl
theorem bdA (Φ:A7) (H:Ab) (nx:Nat) (k:Int):Ai Φ H nx (.build [(0,1),(1,1)] [.int .i64 0,.slice none 0 0] [0]) [.t (iv k)]=some (.t (.ag [iv k,Ah]),H,nx):=rfl
structure WaC where
 H:Ab
 nx:Nat
 i:Nat
 b:Nat
 out:List (ByteArray×ByteArray)
 m:Nat
def SWa (t:T) (c:WaC):Ad:=⟨[(7,.ptr 1 0),(4,.ptr 0 0),(1,.t (iv (c.i:Int))),(0,.t t)],c.H,c.nx,76⟩
structure WaI (kd:Int) (c:WaC):Prop where
 z:Aa c.H 0=some (.cells BN (zAf.map .t))
 a:Aa c.H 1=some (.cells BN [.t (iv kd),rowP eFt c.b c.out])
 row:Ay eFt Kv c.H c.b c.out
 b:c.b<c.nx
 b1:c.out≠[]->2<=c.b
 n:2<=c.nx
structure KdI (L:List KT) (j k:Nat):Prop where
 a:1<=k
 b:k<=3
 c:2<=k->EP L (j+1) 3=true
 d:3<=k->EP L (j+2) 3=true
theorem B4v:Xb.wrap 2=2:=AP (n:=2) rfl (by omega)
theorem B4w:Xb.wrap 3=3:=AP (n:=3) rfl (by omega)
theorem B4x (ht:IsS Aw t l) (hlim:l.length<=1000000) (hi:i<=l.length):A1 Xa (G q) 12 [t,iv (i:Int)] (· = LK (C9 (l.map kt) i)):=by
 obtain⟨Z,hZ⟩:∃Z,Z=C9 (l.map kt) i:=⟨_,rfl⟩
 rw[<-hZ];have CW:=B4u (q:=q) ht;have g1:KL l t [t,iv (i:Int),sv ⟨#[110,111,110,101]⟩]=_:=Vt (l:=l) (t:=t) (i:=i) _;have g2:KL l t [t,iv (i:Int),sv ⟨#[115,117,102,102,105,120]⟩]=_:=Vt (l:=l) (t:=t) (i:=i) _;have g3:KL l t [t,iv (i:Int),sv ⟨#[112,114,101,102,105,120]⟩]=_:=Vt (l:=l) (t:=t) (i:=i) _;have gw:Kj l t [t,iv (i:Int)]=_:=Ug (l:=l) (t:=t) (i:=i)
 have fin:∀(Hx:Ab) (ds:List T),ds.length=2->Aa Hx 0=some (.cells BN (zAf.map .t))->∃Hy,AM 2 Hx (.ptr 0 0) (.t (.ag ds))=some Hy/\Aj true 2 Hy (.ptr 0 0)=some (.t (.ag ds)):=λHx ds hd hx=>by
  refine⟨_,Jk hx rfl hd,ldN (ty:=BN) (ds:=ds) ?_ hd⟩;rw[AN,zy rfl,hx];rfl
 refine CG (args:=[t,iv (i:Int)]) ?_;refine vA.callX rfl ?_;(conv in aR=>cbv);refine Ae Ac ?_;simp -implicitDefEqProofs
 obtain⟨H0,hH0⟩:∃H0:Ab,H0=[(0,.cells BN (zAf.map .t))]:=⟨_,rfl⟩
 have z0:Aa H0 0=some (.cells BN (zAf.map .t)):=by rw[hH0];rfl
 refine Bg (s':=⟨[(4,.ptr 0 0),(1,.t (iv (i:Int))),(0,.t t)],H0,1,76⟩) (by rw[hH0];exact sub_env (by simp -implicitDefEqProofs)) rfl ?_;have ei:Xb.wrap ((i:Int)+1)=(i:Int)+1:=AP (n:=i+1) rfl (by omega);unfold C9 at hZ
 cases hn:GM (l.map kt) i ⟨#[110,111,110,101]⟩with
 | true=>
  rw[hn]at g1
  have hz:Z = .ok (⟨0,[]⟩,i+1):=by
   unfold GM at hn
   cases htk:AJ (l.map kt) i 1 with
   | error e=>rw[htk]at hn;cases hn
   | ok x=>
    obtain⟨x,p1⟩:=x;rw[htk]at hn hZ;simp only at hn hZ;have hx:=of_decide_eq_true hn;rw[hZ,zy hx];unfold AJ at htk;split at htk
    .cases htk
    .split at htk
     .injection htk with htk;injection htk with _ htk;rw[htk]
     .cases htk
  obtain⟨Hy,sy,ly⟩:=fin H0 [iv 0,Ah] rfl z0;refine Ae CW ?_;simp -implicitDefEqProofs [FG,g1,bdA,ei,sy,-Bo];exact A0 ⟨.t (.tu [.ag [iv 0,Ah],iv ((i:Int)+1),iv 0]),Hy,1⟩ ⟨by rw[hz];rfl⟩ (by simp -implicitDefEqProofs [ly])
 | false=>
 rw[hn]at g1;refine Ae CW ?_;simp -implicitDefEqProofs [FG,g1]
 obtain⟨w2,hw2⟩:∃w,w=GM (l.map kt) i ⟨#[115,117,102,102,105,120]⟩:=⟨_,rfl⟩
 obtain⟨w3,hw3⟩:∃w,w=GM (l.map kt) i ⟨#[112,114,101,102,105,120]⟩:=⟨_,rfl⟩
 rw[<-hw2]at g2;rw[<-hw3]at g3
 have hcase:(w2=false/\w3=false/\Z = .error (Fz (l.map kt) i))\/(w2=true/\w3=false/\Z=Er (l.map kt) 1 (i+1)/\i<l.length)\/(w2=false/\w3=true/\Z=Er (l.map kt) 2 (i+1)/\i<l.length):=by
  unfold GM at hn hw2 hw3;rcases PB (l:=l) (i:=i) ht 1 with⟨hk,x,r,htk,hjl,hia⟩ | ⟨hk,htk,hw⟩
  .rw[htk]at hn hw2 hw3 hZ;simp only at hn hw2 hw3 hZ;rw[zz (of_decide_eq_false hn)]at hZ
   by_cases h2:x=⟨#[115,117,102,102,105,120]⟩
   .rw[zy h2]at hZ;exact .inr (.inl ⟨by rw[hw2];exact zw h2,by rw[hw3,h2];rfl,hZ,hjl⟩)
   .rw[zz h2]at hZ
    by_cases h3:x=⟨#[112,114,101,102,105,120]⟩
    .rw[zy h3]at hZ;exact .inr (.inr ⟨by rw[hw2];exact zx h2,by rw[hw3];exact zw h3,hZ,hjl⟩)
    .rw[zz h3]at hZ;refine .inl ⟨by rw[hw2];exact zx h2,by rw[hw3];exact zx h3,?_⟩;rw[hZ];unfold Fz;rw[zz (by rw[Xd];omega)]
  .rw[htk]at hw2 hw3 hZ;exact .inl ⟨hw2,hw3,hZ⟩
 obtain⟨Hk,hHk⟩:∃Hk:Int->Ab,Hk=λk=>(1,.cells BN ([iv k,Ah].map .t))::H0:=⟨_,rfl⟩
 have s1:AM 2 ((1,.cells BN [.t (iv 0),.t Ah])::H0) (.ptr 1 0) (.t (.ag [iv 1,Ah]))=some (Hk 1):=by
  rw[hHk];exact Dv (zs:=[.t (iv 0),.t Ah]) (ds:=[iv 1,Ah]) (n:=2) rfl rfl H0
 have s2:AM 1 (Hk 1) (.ptr 1 0) (.t (iv 2))=some (Hk 2):=by
  have h1:=Fw (H:=Hk 1) (b:=1) (n:=1) (o:=0) (ns:=[.t (iv 2)]) (t:=.t (iv 2)) (ty:=BN) (cs:=[iv 1,Ah].map .t) (by rw[hHk];rfl) rfl rfl (by show 0+1<=2;omega);rw[h1,hHk];rfl
 refine AE (λ_:Bool=>⟨[(4,.ptr 0 0),(1,.t (iv (i:Int))),(0,.t t)],H0,1,76⟩) (λb=>w3=b/\Z=Er (l.map kt) (if b then 2 else 1) (i+1)/\i<l.length) (λ_=>rfl) ?_ ?_
 .rcases hcase with⟨rfl,rfl,hz⟩ | ⟨rfl,rfl,hz,hl⟩ | ⟨rfl,rfl,hz,hl⟩
  .obtain⟨Hy,sy,ly⟩:=fin H0 zAf rfl z0;refine Ar CW ?_;simp -implicitDefEqProofs [FG,GL,g2,g3,gw,LM,sy,-Bo];exact A0 ⟨.t (.tu [.ag zAf,iv 0,iv (Fz (l.map kt) i)]),Hy,1⟩ ⟨by rw[hz];rfl⟩ (by simp -implicitDefEqProofs [ly])
  .refine Ar CW ?_;simp -implicitDefEqProofs [FG,g2,g3];exact Am.mk false ⟨rfl,hz,hl⟩ (sub_env (by simp -implicitDefEqProofs))
  .refine Ar CW ?_;simp -implicitDefEqProofs [FG,g2,g3];exact Am.mk true ⟨rfl,hz,hl⟩ (sub_env (by simp -implicitDefEqProofs))
 clear hcase hw2 hw3;rintro b ⟨rfl,hz,hl⟩;refine Ae Ac ?_;simp -implicitDefEqProofs [bdA,s1,-Bo];refine AE (λk:Int=>⟨[(7,.ptr 1 0),(4,.ptr 0 0),(1,.t (iv (i:Int))),(0,.t t)],Hk k,2,76⟩) (λk=>Z=Er (l.map kt) k (i+1)/\i<l.length) (λ_=>rfl) ?_ ?_
 .refine Ar CW ?_
  cases w3 with
  | false=>
   simp -implicitDefEqProofs [FG,g3];exact Am.mk (1:Int) ⟨hz,hl⟩ (sub_env (by simp -implicitDefEqProofs))
  | true=>
   simp -implicitDefEqProofs [FG,g3,s2];exact Am.mk (2:Int) ⟨hz,hl⟩ (sub_env (by simp -implicitDefEqProofs))
 rintro kd ⟨hZk,hil⟩
 obtain⟨Y,hY⟩:∃Y,Y=Hh (l.map kt) (i+1):=⟨_,rfl⟩
 unfold Er at hZk;rw[<-hY]at hZk;unfold Hh at hY
 have I0:WaI kd ⟨Hk kd,2,i,0,[],(l.map kt).length+1⟩:=⟨by rw[hHk];exact z0,by rw[hHk];rfl,.inl rfl,by show 0<2;omega,λh=>absurd rfl h,Nat.le_refl _⟩
 refine Bg (s':=SWa t ⟨Hk kd,2,i,0,[],(l.map kt).length+1⟩) (sub_env (by simp -implicitDefEqProofs [SWa])) rfl ?_;refine AG ?_
 refine BV (SWa t) (λc=>c.m) (λc=>Y=Ch (l.map kt) (DB (l.map kt)) [44] 1000000000 c.m (c.i+1) c.out/\l.length<c.i+1+c.m/\c.out.length<=c.i/\c.i<l.length/\WaI kd c) ⟨Hk kd,2,i,0,[],(l.map kt).length+1⟩ (λ_=>rfl)
  ⟨hY,by show l.length<i+1+((l.map kt).length+1);rw[Xd];omega,Nat.zero_le _,hil,I0⟩ (Sub.refl _) rfl ?_
 clear I0 g1 g2 g3 gw s1 s2 hz hHk hH0 z0 hn hY ei;rintro⟨Hc,nc,j,b,out,m⟩ ⟨hz,hm,ho,hj,I⟩;simp only at hz hm ho hj
 obtain⟨m,rfl⟩:∃m',m=m'+1:=⟨m-1,by omega⟩
 rw[Ch]at hz;obtain⟨i1,i2,i3,i4,i5,i6⟩:=I;simp only at i1 i2 i3 i4 i5 i6;have e1:Xb.wrap ((j:Int)+1)=(j:Int)+1:=AP (n:=j+1) (by omega) (by omega);have e2:Xb.wrap ((j:Int)+2)=(j:Int)+2:=AP (n:=j+2) (by omega) (by omega);have e3:Xb.wrap ((j:Int)+3)=(j:Int)+3:=AP (n:=j+3) (by omega) (by omega);have gk1:Ki l t [t,iv ((j:Int)+1),iv 3]=_:=Uf (l:=l) (t:=t) (i:=j+1) 3;have gk2:Ki l t [t,iv ((j:Int)+2),iv 3]=_:=Uf (l:=l) (t:=t) (i:=j+2) 3;have gw1:Kj l t [t,iv ((j:Int)+1)]=_:=Ug (l:=l) (t:=t) (i:=j+1);have gw2:Kj l t [t,iv ((j:Int)+2)]=_:=Ug (l:=l) (t:=t) (i:=j+2);refine AG ?_;refine AE (λ_:Unit=>⟨[(7,.ptr 1 0),(4,.ptr 0 0),(1,.t (iv (j:Int))),(0,.t t)],Hc,nc,76⟩) (λ_=>EP (l.map kt) (j+1) 3=true/\EP (l.map kt) (j+2) 3=true) (λ_=>rfl) ?_ ?_
 .refine Ae Ac ?_;simp -implicitDefEqProofs [SWa];refine AG ?_
  refine BV (λk:Nat=>⟨[(8,.t (iv (k:Int))),(7,.ptr 1 0),(4,.ptr 0 0),(1,.t (iv (j:Int))),(0,.t t)],Hc,nc,76⟩) (λk=>3-k) (λk=>KdI (l.map kt) j k) 1 (λ_=>rfl)
   ⟨Nat.le_refl _,by omega,λh=>by omega,λh=>by omega⟩ (sub_env (by simp -implicitDefEqProofs)) rfl ?_
  rintro k ⟨k1,k3,hk1,hk2⟩
  have hk:k=1\/k=2\/k=3:=by omega
  obtain⟨Hy,sy,ly⟩:=fin Hc zAf rfl i1;rcases hk with rfl | rfl | rfl
  .refine Ae Ac ?_;simp -implicitDefEqProofs
   cases hq:EP (l.map kt) (j+1) 3 with
   | true=>
    rw[hq]at gk1;refine Ar CW ?_;simp -implicitDefEqProofs [FG,GL,e1,gk1,B4v];exact Am.mk 2 ⟨⟨by omega,by omega,λ_=>hq,λh=>by omega⟩,by omega⟩ (sub_env (by simp -implicitDefEqProofs))
   | false=>
    have hc:DB (l.map kt) (j+1) = .error (Fz (l.map kt) (j+1)):=by unfold DB;rw[UC hq]
    rw[hc]at hz;rw[hq]at gk1;refine Ar CW ?_;simp -implicitDefEqProofs [FG,GL,e1,gk1,gw1,LM,sy,-Bo];exact A0 ⟨.t (.tu [.ag zAf,iv 0,iv (Fz (l.map kt) (j+1))]),Hy,nc⟩ ⟨by rw[hZk,hz];rfl⟩ (by simp -implicitDefEqProofs [ly])
  .refine Ae Ac ?_;simp -implicitDefEqProofs
   cases hq:EP (l.map kt) (j+2) 3 with
   | true=>
    rw[hq]at gk2;refine Ar CW ?_;simp -implicitDefEqProofs [FG,GL,e2,gk2,B4w];exact Am.mk 3 ⟨⟨by omega,by omega,λ_=>hk1 (by omega),λ_=>hq⟩,by omega⟩ (sub_env (by simp -implicitDefEqProofs))
   | false=>
    have hc:DB (l.map kt) (j+1) = .error (Fz (l.map kt) (j+2)):=by
     rcases PB (l:=l) (i:=j+1) ht 3 with⟨_,s,r,htk,_,_⟩ | ⟨hk,_,_⟩
     .unfold DB;rw[htk];simp only;rw[UC hq]
     .rw[hk1 (by omega)]at hk;cases hk
    rw[hc]at hz;rw[hq]at gk2;refine Ar CW ?_;simp -implicitDefEqProofs [FG,GL,e2,gk2,gw2,LM,sy,-Bo];exact A0 ⟨.t (.tu [.ag zAf,iv 0,iv (Fz (l.map kt) (j+2))]),Hy,nc⟩ ⟨by rw[hZk,hz];rfl⟩ (by simp -implicitDefEqProofs [ly])
  .refine Ae Ac ?_;simp -implicitDefEqProofs;exact Am.mk () ⟨hk1 (by omega),hk2 (by omega)⟩ (sub_env (by simp -implicitDefEqProofs))
 rintro _ ⟨hk1,hk2⟩;rcases PB (l:=l) (i:=j+1) ht 3 with⟨_,s,r,htk,hjl,hia⟩ | ⟨hk,_,_⟩
 rotate_left
 .rw[hk1]at hk;cases hk
 rcases PB (l:=l) (i:=j+2) ht 3 with⟨_,v,r2,htk2,hjl2,hia2⟩ | ⟨hk,_,_⟩
 rotate_left
 .rw[hk2]at hk;cases hk
 have hc:DB (l.map kt) (j+1) = .ok ((s,v),j+3):=by unfold DB;rw[htk];simp only;rw[htk2]
 rw[hc]at hz;simp only at hz;have hia:Bd 3 (.t t) (.t (.v (.int .i64 ((j:Int)+1))))=some (.t (.pt (iv 3::sv s::r))):=hia;have hia2:Bd 3 (.t t) (.t (.v (.int .i64 ((j:Int)+2))))=some (.t (.pt (iv 3::sv v::r2))):=hia2;obtain⟨H2,ap,row2,k2,f2,c2⟩:=Nc (e:=eFt) (ty:=Kv) (by':=32) (nx:=nc) (s,v) 2 rfl [sv s,sv v] rfl i3 (λ_=>i4) (by omega) (by omega)
 obtain⟨out',hout'⟩:∃out',out'=out++[(s,v)]:=⟨_,rfl⟩
 have ol:out'.length=out.length+1:=by rw[hout',List.length_append];rfl
 have on:out'≠[]:=by rw[hout'];simp
 rw[<-hout']at ap row2 hz
 have l1:Aj false 1 Hc (.ptr 1 1)=some (rowP eFt b out):=by simp only[Aj,i2,Bool.false_eq_true,if_false];rfl
 have a2:Aa H2 1=some (.cells BN [.t (iv kd),rowP eFt b out]):=by rw[k2 1 (by omega) (λh=>by have:=i5 h;omega)];exact i2
 have z2:Aa H2 0=some (.cells BN (zAf.map .t)):=by rw[k2 0 (by omega) (λh=>by have:=i5 h;omega)];exact i1
 have cp:Bj (rowP eFt nc out')=some [rowP eFt nc out']:=by cases out'<;>rfl
 have s3:=Fw (n:=1) (o:=1) a2 cp rfl (by show 1+1<=2;omega)
 have a3:Aa (Xe H2 1 (.cells BN [.t (iv kd),rowP eFt nc out'])) 1=some (.cells BN [.t (iv kd),rowP eFt nc out']):=by rw[AN,zy rfl,a2];rfl
 have z3:Aa (Xe H2 1 (.cells BN [.t (iv kd),rowP eFt nc out'])) 0=some (.cells BN (zAf.map .t)):=by rw[AN,zz (by omega)];exact z2
 have row3:Ay eFt Kv (Xe H2 1 (.cells BN [.t (iv kd),rowP eFt nc out'])) nc out':=row2.imp id λe=>by rw[AN,zz (by omega)];exact e
 rw[show Bp [PV.t (iv kd),rowP eFt b out] 1 [rowP eFt nc out']=[.t (iv kd),rowP eFt nc out']from rfl]at s3
 obtain⟨H3,hH3⟩:∃H3,H3=Xe H2 1 (.cells BN [.t (iv kd),rowP eFt nc out']):=⟨_,rfl⟩
 rw[<-hH3]at s3 a3 z3 row3;have gi:MX l t [t,iv ((j:Int)+3),sv ⟨#[44]⟩]=_:=A2b (l:=l) (t:=t) (i:=j+3) ⟨#[44]⟩;rw[show(⟨#[44]⟩:ByteArray).data.toList=[44]from rfl]at gi;refine Ae Ac ?_;simp -implicitDefEqProofs [l1,e1,e2,hia,hia2,DY,bq2,tsC,ap,s3,-Bo,-M3];refine Ae Ac ?_;simp -implicitDefEqProofs [e3]
 cases hs:Be (l.map kt) (j+3) [44]with
 | false=>
  rw[hs]at gi;rw[hs,zz (by decide)]at hz
  have a4:Aa (B1 H3 [nc]) 1=some (.cells BN ([iv kd,Aq eFt out'].map .t)):=by
   rw[QA (by simp;omega) a3];simp only[De,List.map_cons,List.map_nil];rw[FM row3 (List.mem_singleton.2 rfl)];rfl
  have z4:Aa (B1 H3 [nc]) 0=some (.cells BN (zAf.map .t)):=by
   rw[QA (by simp;omega) z3];rfl
  refine Bg (s':=⟨[(7,.ptr 1 0),(4,.ptr 0 0),(1,.t (iv ((j:Int)+3))),(0,.t t)],B1 H3 [nc],nc+1,76⟩) (EI [nc] (by simp -implicitDefEqProofs [O8,Lr])) rfl ?_
  obtain⟨H4,hH4⟩:∃H4,H4=B1 H3 [nc]:=⟨_,rfl⟩
  rw[<-hH4]at a4 z4 ⊢;have ld:=ldN (n:=2) a4 rfl;obtain⟨Hy,sy,ly⟩:=fin H4 [iv kd,Aq eFt out'] rfl z4;refine Ar CW ?_;simp -implicitDefEqProofs [FG,GL,gi,ld,sy];exact A0 ⟨.t (.tu [.ag [iv kd,Aq eFt out'],iv ((j:Int)+3),iv 0]),Hy,nc+1⟩ ⟨by rw[hZk,hz];rfl⟩ (by simp -implicitDefEqProofs [ly])
 | true=>
  have lj:=DQ hs;rw[Xd]at lj;rw[hs,zy rfl,zz (by omega)]at hz;rw[hs]at gi;refine Ar CW ?_;simp -implicitDefEqProofs [FG,GL,gi];exact Am.mk ⟨H3,nc+1,j+3,nc,out',m⟩ ⟨⟨hz,by show l.length<j+3+1+m;omega,by show out'.length<=j+3;omega,lj,⟨z3,a3,row3,by show nc<nc+1;omega,λ_=>i6,by show 2<=nc+1;omega⟩⟩,Nat.lt_succ_self m⟩ (sub_env (by simp -implicitDefEqProofs [SWa]))
end
def C7c (ts:List T):Option T:=match ts with
 | [.v (.string s)]=>if s.size<=100000 then some (HQ (Cd s.data.toList))else none
 | _=>none
theorem TkG.take {l:List KT} {B:Nat} (h:TkG l B) (n:Nat):TkG (l.take n) B:=by
 refine⟨λt ht=>h.k t (Xf ht),λt ht=>h.q t (Xf ht),λt ht=>h.s t (Xf ht),by rw[Xg];have:=h.n;omega,λp=>?_⟩
 have e:Bt (l.take n) p=Bt l (min p n):=by
  unfold Bt;rw[List.take_take]
 rw[e];exact h.b _
noncomputable def KN (ts:List T):Option T:=open Classical in match ts with
 | [t,.v (.int .i64 i)]=>if h:0<=i/\∃l:List Tok,IsS Aw t l/\l.length<=1000000/\i.toNat<=l.length then some (LK (C9 ((Classical.choose h.2).map kt) i.toNat))else none
 | _=>none
theorem B4y {t:T} {l:List Tok} {i:Nat} (ht:IsS Aw t l) (hl:l.length<=1000000) (hi:i<=l.length):KN [t,iv (i:Int)]=some (LK (C9 (l.map kt) i)):=by
 unfold KN
 have hx:∃l:List Tok,IsS Aw t l/\l.length<=1000000/\((i:Int)).toNat<=l.length:=⟨l,ht,hl,by simpa using hi⟩
 simp only;rw[dif_pos ⟨by omega,hx⟩];have h1:=(Classical.choose_spec hx).1;rw[(tSl Aw).uniq _ _ _ h1 ht,Xh]
theorem B4z:GOK Xa (G q) 11 KN:=λargs r h=>by
 unfold KN at h;split at h
 .split at h
  .rename_i i hc;have h2:=Classical.choose_spec hc.2;obtain⟨n,rfl⟩:=Xc hc.1;injection h with h;subst h;rw[Xh]at *;exact iR h2.1 h2.2.1 h2.2.2
  .cases h
 .cases h
theorem B5a:GOK Xa (G q) 12 KN:=λargs r h=>by
 unfold KN at h;split at h
 .split at h
  .rename_i i hc;have h2:=Classical.choose_spec hc.2;obtain⟨n,rfl⟩:=Xc hc.1;injection h with h;subst h;rw[Xh]at *;exact B4x h2.1 h2.2.1 h2.2.2
  .cases h
 .cases h
theorem B5b {l:List KT} {B:Nat} (G:TkG l B) (hB:B<=65536) (i:Nat):∃(k:Int) (u:T) (a:Nat) (e:Int),LK (C9 l i) = .tu [.ag [iv k,u],iv (a:Int),iv e]/\OL [.ag [iv k,u],.ag [iv k,u]]=some (bv true):=by
 cases h:C9 l i with
 | error e=>exact⟨0,Ah,0,e,rfl,TP (a:=⟨0,[]⟩) ⟨Ah,rfl,.inl ⟨rfl,rfl⟩⟩ ⟨Ah,rfl,.inl ⟨rfl,rfl⟩⟩ (by simp)⟩
 | ok r=>
  obtain⟨a,p⟩:=r;refine⟨a.kind,_,p,0,rfl,TP (EN.cs a) (EN.cs a) ?_⟩;rcases kJ G h with⟨_,hp⟩ | ⟨_,_,_,hp,_⟩
  .rw[hp];simp
  .omega
theorem B5c (s:ByteArray) (to at_:Int) (hto:-9223372036854775808<=to/\to<=9223372036854775807):A1 Xa (G q) 3 [sv s,iv to,iv at_] (· = bv true):=by
 have CE:Ctx Xa (G q) (orc [(9,gEx),(10,G6)]):=(As.cons hEx (.cons UG .nil)).ctx mixed;refine vF.call rfl ?_;by_cases hs:1000<s.size
 .have hs':(1000:Int)<(s.size:Int):=by omega
  refine Ap CE ?_
  (conv in Lh=>cbv);simp -implicitDefEqProofs [hs,hs',ge0]
 have hs':¬(1000:Int)<(s.size:Int):=by omega
 by_cases ha:at_<0
 .refine Ap CE ?_
  (conv in Lh=>cbv);simp -implicitDefEqProofs [hs,hs',ha,ge0]
 rcases nG (s:=s) (by omega)with⟨k,e,he,hg,_⟩ | ⟨ts,hts,hg,hlen⟩
 .have hb:(e != 0)=true:=by simpa using he
  refine Ap CE ?_
  (conv in Lh=>cbv);simp -implicitDefEqProofs [hs,hs',ha,hg,hb,he,ge0]
 have hlt:AO (.t (Aq Aw ts))=some (.t (iv (ts.length:Int))):=(IsS.tree Aw ts).len;by_cases h1:(ts.length:Int)<to
 .generalize Aq Aw ts=tt at hg hlt;refine Ap CE ?_
  (conv in Lh=>cbv);simp -implicitDefEqProofs [hs,hs',ha,hg,hlt,h1,ge0]
 by_cases h2:to<at_
 .generalize Aq Aw ts=tt at hg hlt;refine Ap CE ?_
  (conv in Lh=>cbv);simp -implicitDefEqProofs [hs,hs',ha,hg,hlt,h1,h2,ge0]
 obtain⟨n,rfl⟩:=Xc (show 0<=to by omega);obtain⟨i,rfl⟩:=Xc (show 0<=at_ by omega)
 have hn:n<=ts.length:=by omega
 have hin:i<=n:=by omega
 obtain⟨t1,hsl,hi1⟩:=(IsS.tree Aw ts).slice_to hn .i64;have hl:s.data.toList.length=s.size:=rfl;have G1:=(kN hts (B:=1000) (by omega)).take n;have hga:=B4y (i:=i) hi1 (by rw[Xg];omega) (by rw[Xg];omega);rw[List.map_take]at hga;obtain⟨k,u,a,e,hr,hsa⟩:=B5b G1 (by omega) i;rw[hr]at hga;have hsl:EY 3 (.t (Aq Aw ts)) none (some (.t (iv (n:Int))))=some (.t t1):=hsl;have C:Ctx Xa (G q) (orc [(9,gEx),(10,G6),(11,KN),(12,KN),(13,OL)]):=(As.cons hEx (.cons UG (.cons B4z (.cons B5a (.cons cN .nil))))).ctx mixed
 have k1:¬ts.length<n:=by omega
 have k2:¬n<i:=by omega
 have k3:¬(i:Int)<0:=by omega
 have st:=sA k u;generalize Aq Aw ts=tt at hg hlt hsl
 have l0:∀(R:Ab) (x:Row),Aj true 2 ((1,x)::(0,.cells 29 [.t (iv k),.t u])::R) (.ptr 0 0)=some (.t (.ag [iv k,u])):=λR x=>by simp[Aj,Az,Bi,Eh]
 have l1:∀(R:Ab),Aj true 2 ((1,.cells 29 [.t (iv k),.t u])::R) (.ptr 1 0)=some (.t (.ag [iv k,u])):=λR=>by simp[Aj,Az,Bi,Eh]
 refine Ap C ?_
 (conv in Lh=>cbv);simp -implicitDefEqProofs [hs,hs',k3,hg,hlt,h1,h2,k1,k2,hsl,hga,st,l0,l1,hsa,ge0]
end Go.Proofs.YtobnacghaamfoaaGreatDoor
