/-
 Auxiliary facts. No statement of the program stands here.
-/
import Derived.Test.YtbiadmfmjnoecaaVRQ40
import Derived.Test.YtbiadmfmjnoecaaVRQ42
namespace Go.Proofs.Ytbiadmfmjnoecaa
set_option linter.unusedSimpArgs false
set_option linter.unusedVariables false
open Go Go.Abs
set_option maxRecDepth 100000
def tyO (a:List Nd) (p:List Int):Int:=match atL a p with
 | some n=>typN a n
 | none=>0
def okO (a:List Nd) (p:List Int):Bool:=(atL a p).isSome
theorem E9j (a:List Nd) (p:List Int):D6u a p = .tu [iv (tyO a p),bv (okO a p)]:=by
 unfold D6u tyO okO
 cases atL a p<;>rfl
def nodO (a:List Nd) (p:List Int):Nat:=(atL a p).getD 0
theorem H2z (a:List Nd) (p:List Int):atT a p = .tu [iv (nodO a p:Int),bv (okO a p)]:=by
 unfold atT nodO okO
 cases atL a p<;>rfl
theorem H3a (a:List Nd) (z:List Int×List Int):okS a z=(okO a z.1&&okO a z.2&&decide ((nodO a z.1:Int)=(nodO a z.2:Int))):=by
 unfold okS okO nodO
 cases atL a z.1 with
 | none=>rfl
 | some m=>
  cases atL a z.2 with
  | none=>rfl
  | some n=>
   simp only[Option.isSome_some,Bool.true_and,Option.getD_some]
   by_cases e:m=n
   ·subst e;simp
   ·have:¬((m:Int)=(n:Int)):=by omega
    rw[decide_eq_false e,decide_eq_false this]
noncomputable def tx43:Tbl:=[(42,E8n),(59,gPAt)]
theorem cx43:Ctx Try.prog G (orc tx43):=(A1t.cons E1c (.cons F9p .nil)).ctx A1u
def at3T (a b:List Nd) (p:List Int):T:=.tu [iv (tyO a p),iv (tyO b p),bv (okO a p&&okO b p)]
section
variable {t ta tb tp : T} {a b : List Nd} {p : List Int} {z : List Int × List Int}
theorem G5o (hta:IsS eNd ta a) (htb:IsS eNd tb b) (hp:IsS eInt tp p) (pa:A2b a) (pb:A2b b) (hl:p.length<=1000000):A0y Try.prog G 40 [.ag [ta],.ag [tb],tp] (· = at3T a b p):=by
 have cp:∀t:T,A0w (.t (.ag [t]))=some [.t t]:=fun _=>rfl
 have ag:∀t:T,agOf [.t t] = .t (.ag [t]):=fun _=>rfl
 have g1:=C9v hta hp pa hl
 have g2:=C9v htb hp pb hl
 rw[E9j]at g1 g2
 unfold at3T
 generalize tyO a p=x at *
 generalize tyO b p=y at *
 refine G4a.runs cx43 rfl ?_
 unfold E8a
 generalize okO a p=o1 at *
 generalize okO b p=o2 at *
 cases o1<;>cases o2<;>simp -implicitDefEqProofs (maxDischargeDepth:=8) [cp,ag,A0f,tx43,g1,g2,extractV]
noncomputable def gAt3:List T->Option T:=g3 tFS tFS (tSl eInt) fun a b p=>open Classical in if A2b a/\A2b b/\p.length<=1000000 then some (at3T a b p)else none
theorem H0i:GOK Try.prog G 40 gAt3:=F0n fun x y z a b p r hx hy hz hr=>by
 obtain⟨u,rfl,hu⟩:=hx
 obtain⟨v,rfl,hv⟩:=hy
 split at hr
 ·rename_i h;injection hr with hr;subst hr;exact G5o hu hv hz h.1 h.2.1 h.2.2
 ·cases hr
theorem H0j (hta:IsS eNd ta a) (htb:IsS eNd tb b) (hp:IsS eInt tp p) (pa:A2b a) (pb:A2b b) (hl:p.length<=1000000):gAt3 [.ag [ta],.ag [tb],tp]=some (at3T a b p):=
 (F0o (τ:=tFS) (σ:=tFS) (ρ:=tSl eInt) ⟨ta,rfl,hta⟩ ⟨tb,rfl,htb⟩ hp).trans (if_pos ⟨pa,pb,hl⟩)
theorem E1s (ht:IsS eNd t a) (pa:A2b a) (h1:z.1.length<=1000000) (h2:z.2.length<=1000000):A0y Try.prog G 44 [.ag [t],.ag [A0k eInt z.1,A0k eInt z.2]] (· = bv (okS a z)):=by
 have cp:∀t:T,A0w (.t (.ag [t]))=some [.t t]:=fun _=>rfl
 have cz:∀s t:T,A0w (.t (.ag [s,t]))=some [.t s,.t t]:=fun _ _=>rfl
 have ag:∀t:T,agOf [.t t] = .t (.ag [t]):=fun _=>rfl
 have g1:=E4s ht (IsS.tree eInt z.1) pa h1
 have g2:=E4s ht (IsS.tree eInt z.2) pa h2
 rw[H2z]at g1 g2
 rw[H3a]
 generalize A0k eInt z.1=A at *
 generalize A0k eInt z.2=C at *
 generalize (nodO a z.1:Int)=x at *
 generalize (nodO a z.2:Int)=y at *
 refine D6h.runs cx43 rfl ?_
 unfold C1e
 generalize okO a z.1=o1 at *
 generalize okO a z.2=o2 at *
 have eb:(x==y)=decide (x=y):=by
  by_cases e:x=y
  ·subst e;simp
  ·rw[decide_eq_false e,beq_eq_false_iff_ne];exact e
 cases o1<;>cases o2<;>simp -implicitDefEqProofs (maxDischargeDepth:=8) [cp,cz,ag,A0f,tx43,g1,g2,extractV,eb]
noncomputable def D7b:List T->Option T:=g2 tFS (tAg eShr) fun a z=>open Classical in if A2b a/\z.1.length<=1000000/\z.2.length<=1000000 then some (bv (okS a z))else none
theorem E5l:GOK Try.prog G 44 D7b:=A6w fun x y a z r hx hy hr=>by
 obtain⟨u,rfl,hu⟩:=hx
 obtain rfl:y = .ag (eShr.enc z):=hy
 split at hr
 ·rename_i h;injection hr with hr;subst hr;exact E1s hu h.1 h.2.1 h.2.2
 ·cases hr
theorem A9i (ht:IsS eNd t a) (pa:A2b a) (h1:z.1.length<=1000000) (h2:z.2.length<=1000000):D7b [.ag [t],.ag [A0k eInt z.1,A0k eInt z.2]]=some (bv (okS a z)):=
 (A5y (τ:=tFS) (σ:=tAg eShr) (y:=z) ⟨t,rfl,ht⟩ rfl).trans (if_pos ⟨pa,h1,h2⟩)
end
section
variable {nf : Nat} {ty : List Typ} {jn : Int -> Int -> Int} {a b : List Nd}
theorem G5p (hj:B5c ty jn) (ha:A1n ty.length nf a) (hb:A1n ty.length nf b) (hl:a.length*b.length<=4096) (p:List Int) :
  (okO a p=true/\okO b p=true/\okO (genL jn a b) p=true/\tyO (genL jn a b) p=jn (tyO a p) (tyO b p))\/((okO a p&&okO b p)=false/\okO (genL jn a b) p=false):=by
 unfold okO tyO
 cases hg:atL (genL jn a b) p with
 | some n=>
  obtain⟨q,h1,h2,h3,h4⟩:=E4q hj ha hb hl hg
  rw[h2,h3]
  exact .inl ⟨rfl,rfl,rfl,h4⟩
 | none=>
  right
  cases h1:atL a p with
  | none=>exact⟨rfl,rfl⟩
  | some i=>
   cases h2:atL b p with
   | none=>exact⟨rfl,rfl⟩
   | some j=>
    obtain⟨n,_,h3⟩:=E4r hj ha hb hl p h1 h2
    rw[hg]at h3
    cases h3
theorem D7c {z:List Int×List Int}:okS a z=true ↔ ∃n,atL a z.1=some n/\atL a z.2=some n:=by
 unfold okS
 cases atL a z.1 with
 | none=>simp
 | some m=>
  cases atL a z.2 with
  | none=>simp
  | some n=>simp[eq_comm]
theorem H0k (hj:B5c ty jn) (ha:A1n ty.length nf a) (hb:A1n ty.length nf b) (hl:a.length*b.length<=4096) (z:List Int×List Int):okS (genL jn a b) z=(okS a z&&okS b z):=by
 rw[Bool.eq_iff_iff,Bool.and_eq_true,D7c,D7c,D7c]
 constructor
 ·rintro⟨n,h1,h2⟩
  obtain⟨q,g1,g2,g3,_⟩:=E4q hj ha hb hl h1
  obtain⟨r,k1,k2,k3,_⟩:=E4q hj ha hb hl h2
  rw[g1]at k1
  injection k1 with k1
  subst k1
  exact⟨⟨_,g2,k2⟩,⟨_,g3,k3⟩⟩
 ·rintro⟨⟨i,h1,h2⟩,⟨j,h3,h4⟩⟩
  exact G8t hj ha hb hl h1 h2 h3 h4
theorem E1t {F:List (List Int)} (ha:A1n ty.length nf a) (hF:C3m a F) {z:List Int×List Int} (hz:z∈A3c a F):okS a z=true:=by
 obtain⟨n,hn,c,hc,_,rfl⟩:=D3s.1 hz
 refine D7c.2 ⟨c.to.toNat,hF.get (ha.tor hn hc).2,?_⟩
 rw[B2t,hF.get hn,Option.bind_some]
 exact ha.stp' hn hc
theorem G5q {F:List (List Int)} (hF:C3m a F) {n:Nat} {p:List Int} (h:F[n]?=some p):okO a p=true/\tyO a p=typN a n:=by
 unfold okO tyO
 rw[hF.at_ n p h]
 exact⟨rfl,rfl⟩
theorem G1d (ha:A1n ty.length nf a) {p:List Int} (h:okO a p=true):0<=tyO a p/\tyO a p<(ty.length:Int):=by
 unfold okO at h
 unfold tyO
 cases e:atL a p with
 | none=>rw[e]at h;cases h
 | some n=>exact ha.tyr (ha.at_lt p e)
end
noncomputable def tx44:Tbl:=[(30,E5k),(31,G8l),(32,G5m),(34,gGen),(39,E8x),(43,E5h),(42,E8n),(40,gAt3),(44,D7b),(41,F3k)]
theorem cx44:Ctx Try.prog G (orc tx44):=(A1t.cons F3o (.cons F3q (.cons G5n (.cons H0a (.cons E1m (.cons F3j (.cons E1c (.cons H0i (.cons E5l (.cons E9e .nil)))))))))).ctx A1u
section
variable {α : Type}
theorem C5z {e:Enc α} {ty by':Nat} {H:Heap} {nx b:Nat} {l m:List α} {src:PV} (h:Abs.look H b=some (A1g e ty l)) (hs:srcP H e.z src=some (m.length,(m.flatMap e.enc).map .t))
  (hb:(l.length+m.length)*by'<=140737488355328) (hb2:l.length+m.length<=9223372036854775807) :
  appM ty e.z by' H nx (.row b 0 l.length e.z) src=some (.row nx 0 (l.length+m.length) e.z,(nx,A1g e ty (l++m))::rem H b,nx+1):=by
 have hl:((l.flatMap e.enc).map PV.t).length=l.length*e.z:=by rw[List.length_map,A2e]
 simp only[appM,hs,h,A1g,hl,true_and,if_pos (And.intro hb hb2)]
 simp
theorem D3x {e:Enc α} {b:Nat} {l:List α} {i:Nat} {x:α} (hx:l[i]?=some x):A1q e.z (.row b 0 l.length e.z) (.t (iv (i:Int)))=some (.ptr b (i*e.z)):=by
 have:rowP e b l = .row b 0 l.length e.z:=by
  cases l with
  | nil=>simp at hx
  | cons y r=>rfl
 rw[<-this]
 exact A1r hx .i64
end
def R14 (u v ta tb tg:T):Heap:=[(4,.cells 25 [.t tg]),(2,.cells 29 [.t u,.t v]),(1,.cells 25 [.t tb]),(0,.cells 25 [.t ta])]
def S14a (u v ta tb tg fg:T) (len n:Nat):A0b:=⟨[(43,.t (iv (n:Int))),(42,.t (iv (len:Int))),(41,.t fg),(8,.ptr 4 0),(7,.ptr 2 0),(5,.ptr 1 0),(4,.ptr 0 0)],R14 u v ta tb tg,5,161⟩
def S14b (u v ta tb tg:T) (W:List (List Int)) (k:Nat):A0b:=⟨[(81,.t (iv (k:Int))),(80,.t (iv (W.length:Int))),(79,.row 7 0 W.length 1),(8,.ptr 4 0),(7,.ptr 2 0),(5,.ptr 1 0),(4,.ptr 0 0)],(7,A1g ePth 33 W)::R14 u v ta tb tg,8,161⟩
def S14c (u v ta tb tg sg:T) (len k:Nat):A0b:=⟨[(117,.t (iv (k:Int))),(116,.t (iv (len:Int))),(115,.t sg),(8,.ptr 4 0),(7,.ptr 2 0),(5,.ptr 1 0),(4,.ptr 0 0)],R14 u v ta tb tg,5,161⟩
def S14d (u v ta tb tg:T) (W:List (List Int×List Int)) (k:Nat):A0b:=⟨[(141,.t (iv (k:Int))),(140,.t (iv (W.length:Int))),(139,.row 7 0 W.length 2),(8,.ptr 4 0),(7,.ptr 2 0),(5,.ptr 1 0),(4,.ptr 0 0)],(7,A1g eShr 68 W)::R14 u v ta tb tg,8,161⟩
def S14e (u v ta tb tg:T):A0b:=⟨[],R14 u v ta tb tg,5,161⟩
theorem G1e {u v ta tb tg:T} {n nx:Nat} {env env':List (Nat×PV)} {H:Heap} (h:∀b,b=0\/b=1\/b=2\/b=4->Abs.look H b=Abs.look (R14 u v ta tb tg) b) (he:∀q∈env',Abs.look env q.1=some q.2/\under 5 q.2=true):Sub Try.prog G 0 ⟨env,H,nx,n⟩ ⟨env',R14 u v ta tb tg,5,n⟩:=by
 refine B8y (by omega) (fun q hq=>?_) he
 simp only[R14,List.mem_cons,List.not_mem_nil,or_false]at hq
 rcases hq with rfl | rfl | rfl | rfl
 ·exact⟨by rw[h 4 (by omega)];rfl,by simp,rfl⟩
 ·exact⟨by rw[h 2 (by omega)];rfl,by simp,rfl⟩
 ·exact⟨by rw[h 1 (by omega)];rfl,by simp,rfl⟩
 ·exact⟨by rw[h 0 (by omega)];rfl,by simp,rfl⟩
theorem E1u {α:Type} {e:Enc α} {ty:Nat} {W:List α} {u v ta tb tg:T} {n nx:Nat} {env env':List (Nat×PV)} {H:Heap} (h:∀b,b=0\/b=1\/b=2\/b=4->Abs.look H b=Abs.look (R14 u v ta tb tg) b) (h7:Abs.look H 7=some (A1g e ty W)) (he:∀q∈env',Abs.look env q.1=some q.2/\under 8 q.2=true) :
  Sub Try.prog G 0 ⟨env,H,nx,n⟩ ⟨env',(7,A1g e ty W)::R14 u v ta tb tg,8,n⟩:=by
 refine B8y (by omega) (fun q hq=>?_) he
 simp only[R14,List.mem_cons,List.not_mem_nil,or_false]at hq
 rcases hq with rfl | rfl | rfl | rfl | rfl
 ·exact⟨h7,by simp,A0t _ _ _ _⟩
 ·exact⟨by rw[h 4 (by omega)];rfl,by simp,rfl⟩
 ·exact⟨by rw[h 2 (by omega)];rfl,by simp,rfl⟩
 ·exact⟨by rw[h 1 (by omega)];rfl,by simp,rfl⟩
 ·exact⟨by rw[h 0 (by omega)];rfl,by simp,rfl⟩
structure P14 (h:List Typ×List Ft) (a b g:List Nd):Prop where
 jok:JOK h.1
 va:A1n h.1.length h.2.length a
 vb:A1n h.1.length h.2.length b
 vg:A1n h.1.length h.2.length g
 sa:A3g a
 sb:A3g b
 sg:A3g g
 path:∀p,(okO a p=true/\okO b p=true/\okO g p=true/\tyO g p=A7d h.1 (tyO a p) (tyO b p))\/((okO a p&&okO b p)=false/\okO g p=false)
 eqs:∀z,okS g z=(okS a z&&okS b z)
theorem P14.mk' {h:List Typ×List Ft} {a b:List Nd} (hg:GPre h a b) (h2:h.2.length<=64):P14 h a b (genL (A7d h.1) a b):=by
 have hs:=H2y hg h2
 exact⟨hg.1,hg.2.1.1,hg.2.1.2,hs.2,hg.2.2.1.1,hg.2.2.1.2,hs.1,G5p hg.1.join hg.2.1.1 hg.2.1.2 hg.2.2.2,H0k hg.1.join hg.2.1.1 hg.2.1.2 hg.2.2.2⟩
theorem A2b.mem_short {a:List Nd} (h:A2b a) {p:List Int} (hp:p∈A1d a):p.length<=100000:=by
 obtain⟨hs,ty,nf,hv⟩:=h
 have h1:=C9x hv hp
 have h2:=hs.len
 omega
theorem A2b.shr_short {a:List Nd} (h:A2b a) {z:List Int×List Int} (hz:z∈A3c a (A1d a)):z.1.length<=200000/\z.2.length<=200000:=by
 obtain⟨n,hn,c,hc,_,rfl⟩:=D3s.1 hz
 have h1:=h.short n
 have h2:=h.short c.to.toNat
 simp only[List.length_append,List.length_singleton]
 omega
theorem A2b.shr_len {a:List Nd} (h:A2b a):(A3c a (A1d a)).length<=100000000000:=by
 have:=D6z h.1 (A1d a) a.length (Nat.le_refl _)
 have e:A3c a (A1d a)=shUp a (A1d a) a.length:=rfl
 rw[e]
 have h4:=h.1.len
 have h5:a.length*1000000<=100000*1000000:=Nat.mul_le_mul_right _ (by omega)
 omega
theorem D0g {fl:Bool} {z k b o:Nat} {x:Row} {H:Heap} (h:k≠b):A0f fl z ((k,x)::H) (.ptr b o)=A0f fl z H (.ptr b o):=by
 have e:Abs.look ((k,x)::H) b=Abs.look H b:=by
  simp[Abs.look,h]
 simp only[A0f,e]
set_option maxHeartbeats 8000000 in
theorem E5m {t ta tb:T} {d:List TD} {a b:List Nd} (ht:IsS eTD t d) (hd:d.length<=12->DOK d) (hta:IsS eNd ta a) (htb:IsS eNd tb b):A0y Try.prog G 14 [t,.ag [ta],.ag [tb]] (· = .v (.bool true)):=by
 have gh:=F3p ht hd
 obtain⟨h,hh⟩:∃h,h=hOf d:=⟨_,rfl⟩
 obtain⟨u,hu'⟩:∃u,u=A0k eTyp h.1:=⟨_,rfl⟩
 obtain⟨v,hv'⟩:∃v,v=A0k eFt h.2:=⟨_,rfl⟩
 have hu:IsS eTyp u h.1:=hu'▸IsS.tree _ _
 have hv:IsS eFt v h.2:=hv'▸IsS.tree _ _
 have hTd:hT d = .ag [u,v]:=by unfold hT;rw[<-hh,hu',hv']
 rw[hTd]at gh
 have c1:A0w (.t (.ag [u,v]))=some [.t u,.t v]:=rfl
 have cc:∀x:T,A0w (.t (.ag [x]))=some [.t x]:=fun _=>rfl
 have c2:∀x y:T,A0w (.t (.ag [x,y]))=some [.t x,.t y]:=fun _ _=>rfl
 have a1:∀x y:T,agOf [.t x,.t y] = .t (.ag [x,y]):=fun _ _=>rfl
 have aa:∀x:T,agOf [.t x] = .t (.ag [x]):=fun _=>rfl
 have hsl:IsS eFS (.sl 2 [ta,tb]) [⟨ta,a,hta⟩,⟨tb,b,htb⟩]:=.inr rfl
 have gf:=G3y hu hv hsl (by simp)
 have bs:A1p 25 1 [.slice none 0 0] 2 [(0,.t (.ag [ta])),(1,.t (.ag [tb]))] 3=some (.row 3 0 2 1,.cells 25 [.t ta,.t tb]):=by
  rcases hta with⟨rfl,_⟩ | rfl<;>rcases htb with⟨rfl,_⟩ | rfl<;>rfl
 refine C1f.call rfl ?_
 unfold A9z
 refine A0a cx44 ?_
 simp -implicitDefEqProofs [cc]
 refine A0a cx44 ?_
 simp -implicitDefEqProofs [tx44,gh,A1e,c1,A1y]
 cases hf:D1c h.1.length h.2.length [⟨ta,a,hta⟩,⟨tb,b,htb⟩]with
 | false=>
  rw[hf]at gf
  refine A0a cx44 ?_
  simp -implicitDefEqProofs [A0f,a1,aa,bs,tx44,gf,E9i]
 | true=>
  rw[hf]at gf
  have hall:=F3n hf
  have hA:=hall ⟨ta,a,hta⟩ (by simp)
  have hB:=hall ⟨tb,b,htb⟩ (by simp)
  have hg:GPre h a b:=H0h hd hh hA hB
  have gm:=G9z hu hv hta htb hg
  have hP:=P14.mk' hg (by rw[hh];exact(G1c hd).2)
  unfold genT at gm
  generalize genL (A7d h.1) a b=g at *
  have htg:IsS eNd (A0k eNd g) g:=IsS.tree _ _
  generalize A0k eNd g=tg at *
  have pa:A2b a:=⟨hP.sa,h.1,h.2.length,hP.va⟩
  have pb:A2b b:=⟨hP.sb,h.1,h.2.length,hP.vb⟩
  have pg:A2b g:=⟨hP.sg,h.1,h.2.length,hP.vg⟩
  have gfa:=C1p hta pa
  have gfb:=C1p htb pb
  have gfg:=C1p htg pg
  have gsa:=C3p hta pa
  have gsb:=C3p htb pb
  have gsg:=C3p htg pg
  have la:=pa.shr_len
  have lb:=pb.shr_len
  have lg:=pg.shr_len
  have ma:=fun z hz=>pa.shr_short (z:=z) hz
  have mb:=fun z hz=>pb.shr_short (z:=z) hz
  have mg:=fun z hz=>pg.shr_short (z:=z) hz
  have oa:=fun z hz=>E1t (z:=z) hP.va pa.first hz
  have og:=fun z hz=>E1t (z:=z) hP.vg pg.first hz
  have fla:=pa.first.len
  have flb:=pb.first.len
  have flg:=pg.first.len
  have hsa:=hP.sa.len
  have hsb:=hP.sb.len
  have hsg:=hP.sg.len
  have ifa:IsS ePth (A0k ePth (A1d a)) (A1d a):=IsS.tree _ _
  have ifb:IsS ePth (A0k ePth (A1d b)) (A1d b):=IsS.tree _ _
  have ifg:IsS ePth (A0k ePth (A1d g)) (A1d g):=IsS.tree _ _
  have isa:IsS eShr (A0k eShr (A3c a (A1d a))) (A3c a (A1d a)):=IsS.tree _ _
  have isb:IsS eShr (A0k eShr (A3c b (A1d b))) (A3c b (A1d b)):=IsS.tree _ _
  have isg:IsS eShr (A0k eShr (A3c g (A1d g))) (A3c g (A1d g)):=IsS.tree _ _
  have hFg:=pg.first
  have msa:=fun p hp=>pa.mem_short (p:=p) hp
  have msb:=fun p hp=>pb.mem_short (p:=p) hp
  have msg:=fun p hp=>pg.mem_short (p:=p) hp
  generalize A0k eShr (A3c a (A1d a))=sa at *
  generalize A0k eShr (A3c b (A1d b))=sb at *
  generalize A0k eShr (A3c g (A1d g))=sg at *
  generalize A3c a (A1d a)=Sa at *
  generalize A3c b (A1d b)=Sb at *
  generalize A3c g (A1d g)=Sg at *
  generalize A0k ePth (A1d a)=fa at *
  generalize A0k ePth (A1d b)=fb at *
  generalize A0k ePth (A1d g)=fg at *
  generalize A1d a=Fa at *
  generalize A1d b=Fb at *
  generalize A1d g=Fg at *
  have jn:=fun(p:List Int) (h1:okO a p=true) (h2:okO b p=true)=>E9d hu hv hP.jok (G1d hP.va h1) (G1d hP.vb h2)
  have at3:=fun(p:List Int) (hl:p.length<=1000000)=>H0j hta htb (IsS.tree eInt p) pa pb hl
  have tyg:=fun(p:List Int) (hl:p.length<=1000000)=>C9v htg (IsS.tree eInt p) pg hl
  refine A0a cx44 ?_
  simp -implicitDefEqProofs [A0f,a1,aa,bs,tx44,gf]
  refine A0a cx44 ?_
  simp -implicitDefEqProofs [A0f,a1,aa,cc,tx44,gm,A1e,A1y]
  refine A0s (fun _:Unit=>S14a u v ta tb tg fg g.length g.length) (fun _=>True) (fun _=>rfl) ?_ ?_
  ·refine A0a cx44 ?_
   simp -implicitDefEqProofs [A0f,aa,tx44,gfg,ifg.len,flg]
   refine A0h ?_
   refine A1b (S14a u v ta tb tg fg g.length) g.length (fun _=>rfl) ?_ rfl ?_ ?_
   ·exact G1e (fun b hb=>by rcases hb with rfl | rfl | rfl | rfl<;>rfl) (by simp -implicitDefEqProofs [S14a,under])
   ·intro n hn
    obtain⟨p,hp⟩:∃p,Fg[n]?=some p:=⟨_,List.getElem?_eq_getElem (by omega)⟩
    have hpl:=msg p (List.mem_of_getElem? hp)
    have i1:A1q 1 (.t fg) (.t (iv (n:Int)))=some (.t (.pt (A0k eInt p::rest ePth Fg n))):=ifg.iaddr hp .i64
    have e1:IntKind.i64.wrap ((n:Int)+1)=((n+1:Nat):Int):=A0l (by omega) (by omega)
    obtain⟨o1,o2⟩:=G5q hFg hp
    rcases hP.path p with⟨q1,q2,q3,q4⟩ | ⟨_,q2⟩
    ·have ga:=at3 p (by omega)
     have gj:=jn p q1 q2
     unfold at3T at ga
     rw[q1,q2]at ga
     have ix:=B6m htg (hP.vg.nd hn).2
     have e3:(ndAt g (n:Int)).type=A7d h.1 (tyO a p) (tyO b p):=by rw[<-q4,o2];rfl
     rw[e3]at ix
     generalize A7d h.1 (tyO a p) (tyO b p)=jt at *
     generalize tyO a p=x at *
     generalize tyO b p=y at *
     generalize A0k eInt p=P at *
     refine A0d cx44 ?_
     simp -implicitDefEqProofs (maxDischargeDepth:=8) [S14a,R14,hn,i1,A0f,aa,a1,tx44,ga,extractV,ix,gj,e1]
     exact G1e (fun b hb=>by rcases hb with rfl | rfl | rfl | rfl<;>rfl) (by simp -implicitDefEqProofs [under])
    ·rw[o1]at q2
     cases q2
   ·refine A0d cx44 ?_
    simp -implicitDefEqProofs [S14a]
    exact Next.mk () trivial (A7w (by simp -implicitDefEqProofs [S14a]))
  ·rintro _ -
   have bs0:A1p 33 1 [.slice none 0 0] 0 [] 5=some (.row 5 0 0 1,.cells 33 []):=rfl
   have ap1:appM 33 1 24 ((5,.cells 33 [])::R14 u v ta tb tg) 6 (.row 5 0 0 1) (.t fa)=some (.row 6 0 Fa.length 1,(6,A1g ePth 33 Fa)::R14 u v ta tb tg,7):=by
    have:=C5z (e:=ePth) (ty:=33) (by':=24) (nx:=6) (b:=5) (l:=[]) (m:=Fa) (H:=(5,.cells 33 [])::R14 u v ta tb tg) rfl (A3f ifa) (by simp;omega) (by simp;omega)
    rw[List.length_nil,Nat.zero_add]at this
    exact this
   have ap2:appM 33 1 24 ((6,A1g ePth 33 Fa)::R14 u v ta tb tg) 7 (.row 6 0 Fa.length 1) (.t fb)=some (.row 7 0 (Fa++Fb).length 1,(7,A1g ePth 33 (Fa++Fb))::R14 u v ta tb tg,8):=by
    have:=C5z (e:=ePth) (ty:=33) (by':=24) (nx:=7) (b:=6) (l:=Fa) (m:=Fb) (H:=(6,A1g ePth 33 Fa)::R14 u v ta tb tg) rfl (A3f ifb) (by omega) (by omega)
    rw[List.length_append]
    exact this
   have hW:∀p∈Fa++Fb,p.length<=100000:=fun p hp=>by
    rcases List.mem_append.1 hp with hp | hp
    ·exact msa p hp
    ·exact msb p hp
   have hWl:(Fa++Fb).length<=200000:=by rw[List.length_append];omega
   simp only[R14]at ap1 ap2
   generalize Fa++Fb=W at *
   refine A0a cx44 ?_
   unfold S14a R14
   simp -implicitDefEqProofs [A0f,aa,tx44,gfa,gfb,bs0,ap1,ap2]
   refine A0s (fun _:Unit=>S14b u v ta tb tg W W.length) (fun _=>True) (fun _=>rfl) ?_ ?_
   ·refine A0a cx44 ?_
    simp -implicitDefEqProofs
    refine A0h ?_
    refine A1b (S14b u v ta tb tg W) W.length (fun _=>rfl) ?_ rfl ?_ ?_
    ·exact E1u (fun b hb=>by rcases hb with rfl | rfl | rfl | rfl<;>rfl) rfl (by simp -implicitDefEqProofs [S14b,under])
    ·intro k hk
     obtain⟨p,hp⟩:∃p,W[k]?=some p:=⟨_,List.getElem?_eq_getElem hk⟩
     have hpl:=hW p (List.mem_of_getElem? hp)
     have i1:A1q 1 (.row 7 0 W.length 1) (.t (iv (k:Int)))=some (.ptr 7 k):=by
      have:=D3x (e:=ePth) (b:=7) hp
      rw[show ePth.z=1 from rfl,Nat.mul_one]at this
      exact this
     have l1:A0f false 1 ((7,A1g ePth 33 W)::R14 u v ta tb tg) (.ptr 7 k)=some (.t (A0k eInt p)):=by
      have:=A0j.load (e:=ePth) (ty:=33) (b:=7) (H:=(7,A1g ePth 33 W)::R14 u v ta tb tg) (off:=0) (c:=A0k eInt p) (.inr rfl) hp rfl
      rw[show ePth.z=1 from rfl,Nat.mul_one,Nat.add_zero]at this
      exact this
     have e1:IntKind.i64.wrap ((k:Int)+1)=((k+1:Nat):Int):=A0l (by omega) (by omega)
     have r0:A0f true 1 (R14 u v ta tb tg) (.ptr 0 0)=some (.t (.ag [ta])):=rfl
     have r1:A0f true 1 (R14 u v ta tb tg) (.ptr 1 0)=some (.t (.ag [tb])):=rfl
     have r2:A0f true 2 (R14 u v ta tb tg) (.ptr 2 0)=some (.t (.ag [u,v])):=rfl
     have r4:A0f true 1 (R14 u v ta tb tg) (.ptr 4 0)=some (.t (.ag [tg])):=rfl
     simp only[R14]at l1 r0 r1 r2 r4
     have ga:=at3 p (by omega)
     have gt:=tyg p (by omega)
     unfold at3T at ga
     rw[E9j]at gt
     rcases hP.path p with⟨q1,q2,q3,q4⟩ | ⟨q1,q2⟩
     ·have gj:=jn p q1 q2
      rw[q1,q2]at ga
      rw[q3,q4]at gt
      generalize A7d h.1 (tyO a p) (tyO b p)=jt at *
      generalize tyO a p=x at *
      generalize tyO b p=y at *
      generalize A0k eInt p=P at *
      refine A0d cx44 ?_
      simp -implicitDefEqProofs (maxDischargeDepth:=8) [S14b,R14,hk,i1,l1,D0g,r0,r1,r2,r4,aa,a1,tx44,ga,gt,extractV,gj,e1]
      exact E1u (e:=ePth) (ty:=33) (W:=W) (u:=u) (v:=v) (ta:=ta) (tb:=tb) (tg:=tg) (fun b hb=>by rcases hb with rfl | rfl | rfl | rfl<;>rfl) rfl (by simp -implicitDefEqProofs [under])
     ·rw[q1]at ga
      rw[q2]at gt
      generalize tyO g p=w at *
      generalize tyO a p=x at *
      generalize tyO b p=y at *
      generalize A0k eInt p=P at *
      refine A0d cx44 ?_
      simp -implicitDefEqProofs (maxDischargeDepth:=8) [S14b,R14,hk,i1,l1,D0g,r0,r1,r2,r4,aa,a1,tx44,ga,gt,extractV,e1]
      exact E1u (e:=ePth) (ty:=33) (W:=W) (u:=u) (v:=v) (ta:=ta) (tb:=tb) (tg:=tg) (fun b hb=>by rcases hb with rfl | rfl | rfl | rfl<;>rfl) rfl (by simp -implicitDefEqProofs [under])
    ·refine A0d cx44 ?_
     simp -implicitDefEqProofs [S14b]
     exact Next.mk () trivial (A7w (by simp -implicitDefEqProofs [S14b]))
   ·rintro _ -
    refine A0s (fun _:Unit=>S14c u v ta tb tg sg Sg.length Sg.length) (fun _=>True) (fun _=>rfl) ?_ ?_
    ·refine A0a cx44 ?_
     unfold S14b R14
     simp -implicitDefEqProofs [A0f,aa,tx44,gsg,isg.len]
     refine A0h ?_
     refine A1b (S14c u v ta tb tg sg Sg.length) Sg.length (fun _=>rfl) ?_ rfl ?_ ?_
     ·exact G1e (fun b hb=>by rcases hb with rfl | rfl | rfl | rfl<;>rfl) (by simp -implicitDefEqProofs [S14c,under])
     ·intro k hk
      obtain⟨z,hz⟩:∃z,Sg[k]?=some z:=⟨_,List.getElem?_eq_getElem hk⟩
      have hzm:=List.mem_of_getElem? hz
      obtain⟨z1,z2⟩:=mg z hzm
      have i1:A1q 2 (.t sg) (.t (iv (k:Int)))=some (.t (.pt (A0k eInt z.1::A0k eInt z.2::rest eShr Sg k))):=isg.iaddr hz .i64
      have e1:IntKind.i64.wrap ((k:Int)+1)=((k+1:Nat):Int):=A0l (by omega) (by omega)
      have q1:=A9i (z:=z) hta pa (by omega) (by omega)
      have q2:=A9i (z:=z) htb pb (by omega) (by omega)
      have q3:=og z hzm
      rw[hP.eqs z,Bool.and_eq_true]at q3
      rw[q3.1]at q1
      rw[q3.2]at q2
      generalize A0k eInt z.1=A at *
      generalize A0k eInt z.2=C at *
      refine A0d cx44 ?_
      simp -implicitDefEqProofs (maxDischargeDepth:=8) [S14c,R14,hk,i1,A0f,A1e,c2,A1y,aa,a1,tx44,q1,q2,e1]
      exact G1e (fun b hb=>by rcases hb with rfl | rfl | rfl | rfl<;>rfl) (by simp -implicitDefEqProofs [under])
     ·refine A0d cx44 ?_
      simp -implicitDefEqProofs [S14c]
      exact Next.mk () trivial (A7w (by simp -implicitDefEqProofs [S14c]))
    ·rintro _ -
     have bs0':A1p 68 2 [.slice none 0 0,.slice none 0 0] 0 [] 5=some (.row 5 0 0 2,.cells 68 []):=rfl
     have aq1:appM 68 2 48 ((5,.cells 68 [])::R14 u v ta tb tg) 6 (.row 5 0 0 2) (.t sa)=some (.row 6 0 Sa.length 2,(6,A1g eShr 68 Sa)::R14 u v ta tb tg,7):=by
      have:=C5z (e:=eShr) (ty:=68) (by':=48) (nx:=6) (b:=5) (l:=[]) (m:=Sa) (H:=(5,.cells 68 [])::R14 u v ta tb tg) rfl (A3f isa) (by simp;omega) (by simp;omega)
      rw[List.length_nil,Nat.zero_add]at this
      exact this
     have aq2:appM 68 2 48 ((6,A1g eShr 68 Sa)::R14 u v ta tb tg) 7 (.row 6 0 Sa.length 2) (.t sb)=some (.row 7 0 (Sa++Sb).length 2,(7,A1g eShr 68 (Sa++Sb))::R14 u v ta tb tg,8):=by
      have:=C5z (e:=eShr) (ty:=68) (by':=48) (nx:=7) (b:=6) (l:=Sa) (m:=Sb) (H:=(6,A1g eShr 68 Sa)::R14 u v ta tb tg) rfl (A3f isb) (by omega) (by omega)
      rw[List.length_append]
      exact this
     have hV:∀z∈Sa++Sb,z.1.length<=200000/\z.2.length<=200000:=fun z hz=>by
      rcases List.mem_append.1 hz with hz | hz
      ·exact ma z hz
      ·exact mb z hz
     have hVl:(Sa++Sb).length<=200000000000:=by rw[List.length_append];omega
     simp only[R14]at aq1 aq2
     generalize Sa++Sb=V at *
     refine A0a cx44 ?_
     unfold S14c R14
     simp -implicitDefEqProofs [A0f,aa,tx44,gsa,gsb,bs0',aq1,aq2]
     refine A0s (fun _:Unit=>S14e u v ta tb tg) (fun _=>True) (fun _=>rfl) ?_ ?_
     ·refine A0a cx44 ?_
      simp -implicitDefEqProofs
      refine A0h ?_
      refine A1b (S14d u v ta tb tg V) V.length (fun _=>rfl) ?_ rfl ?_ ?_
      ·exact E1u (fun b hb=>by rcases hb with rfl | rfl | rfl | rfl<;>rfl) rfl (by simp -implicitDefEqProofs [S14d,under])
      ·intro k hk
       obtain⟨z,hz⟩:∃z,V[k]?=some z:=⟨_,List.getElem?_eq_getElem hk⟩
       obtain⟨z1,z2⟩:=hV z (List.mem_of_getElem? hz)
       have i1:A1q 2 (.row 7 0 V.length 2) (.t (iv (k:Int)))=some (.ptr 7 (k*2)):=D3x (e:=eShr) (b:=7) hz
       have l1:A0f true 2 ((7,A1g eShr 68 V)::R14 u v ta tb tg) (.ptr 7 (k*2))=some (.t (.ag [A0k eInt z.1,A0k eInt z.2])):=
        A0j.loadAg (e:=eShr) (ty:=68) (b:=7) (H:=(7,A1g eShr 68 V)::R14 u v ta tb tg) (.inr rfl) hz
       have e1:IntKind.i64.wrap ((k:Int)+1)=((k+1:Nat):Int):=A0l (by omega) (by omega)
       have r0:A0f true 1 (R14 u v ta tb tg) (.ptr 0 0)=some (.t (.ag [ta])):=rfl
       have r1:A0f true 1 (R14 u v ta tb tg) (.ptr 1 0)=some (.t (.ag [tb])):=rfl
       have r2:A0f true 2 (R14 u v ta tb tg) (.ptr 2 0)=some (.t (.ag [u,v])):=rfl
       have r4:A0f true 1 (R14 u v ta tb tg) (.ptr 4 0)=some (.t (.ag [tg])):=rfl
       have r8:∀H:Heap,A0f true 2 ((8,.cells 68 [.t (A0k eInt z.1),.t (A0k eInt z.2)])::H) (.ptr 8 0)=some (.t (.ag [A0k eInt z.1,A0k eInt z.2])):=fun _=>rfl
       simp only[R14]at l1 r0 r1 r2 r4
       have q1:=A9i (z:=z) hta pa (by omega) (by omega)
       have q2:=A9i (z:=z) htb pb (by omega) (by omega)
       have q3:=A9i (z:=z) htg pg (by omega) (by omega)
       rw[hP.eqs z]at q3
       generalize A0k eInt z.1=A at *
       generalize A0k eInt z.2=C at *
       cases k1:okS a z<;>cases k2:okS b z<;>rw[k1]at q1<;>rw[k2]at q2<;>rw[k1,k2]at q3
       all_goals
        refine A0d cx44 ?_
        simp -implicitDefEqProofs (maxDischargeDepth:=8) [S14d,R14,hk,i1,l1,D0g,r0,r1,r2,r4,r8,A1e,c2,A1y,aa,a1,tx44,q1,q2,q3,e1]
        exact E1u (e:=eShr) (ty:=68) (W:=V) (u:=u) (v:=v) (ta:=ta) (tb:=tb) (tg:=tg) (fun b hb=>by rcases hb with rfl | rfl | rfl | rfl<;>rfl) rfl (by simp -implicitDefEqProofs [under])
      ·refine A0d cx44 ?_
       simp -implicitDefEqProofs [S14d]
       exact Next.mk () trivial (G1e (fun b hb=>by rcases hb with rfl | rfl | rfl | rfl<;>rfl) (by simp))
     ·rintro _ -
      refine A0d cx44 ?_
      simp -implicitDefEqProofs [S14e,tx44,E9i]
end Go.Proofs.Ytbiadmfmjnoecaa
