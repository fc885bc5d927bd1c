/-
 Auxiliary facts. No statement of the program stands here.
-/
import Derived.Test.YtbiadmfmjnoecaaVPQ38
import Derived.Test.YtbiadmfmjnoecaaVPQ32
namespace Go.Proofs.Ytbiadmfmjnoecaa
set_option linter.unusedSimpArgs false
set_option linter.unusedVariables false
open Go Go.Abs
set_option maxRecDepth 100000
def S43 (t ft:T) (len:Nat) (out:List (List Int×List Int)) (i:Nat):A0b:=⟨[(15,.t (iv (i:Int))),(14,.t (iv (len:Int))),(13,.t t),(4,rowP eShr 0 out),(3,.t ft)],rowH eShr 68 0 out,1,57⟩
def S43i (t ft:T) (len n:Nat) (ta:T) (kl:Nat) (out:List (List Int×List Int)) (k:Nat):A0b:=
 ⟨[(23,.t (iv (k:Int))),(22,.t (iv (kl:Int))),(21,.t ta),(5,.t (iv (n:Int))),(15,.t (iv (n:Int))),(14,.t (iv (len:Int))),(13,.t t),(4,rowP eShr 0 out),(3,.t ft)],rowH eShr 68 0 out,1,57⟩
section
variable {t : T} {a : List Nd}
set_option maxHeartbeats 4000000 in
theorem E0j (ht:IsS eNd t a) (h:A3p a):A0y Try.prog G 43 [.ag [t]] (· = A0l eShr (A5n a (A1d a))):=by
 have cp:A0s (.t (.ag [t]))=some [.t t]:=rfl
 have ag:agOf [.t t] = .t (.ag [t]):=rfl
 have gf:=D7c ht h
 have hs:=h.1
 have hal:=hs.len
 have hfs:=h.short
 have hfg:∀n,n<a.length->(A1d a)[n]?=some ((A1d a).getD n []):=fun n hn=>D7d h hn
 have hFl:=h.first.len
 have hbr:∀n,n<a.length->∀c∈A3x a n,0<=c.to/\c.to.toNat<a.length:=by
  obtain⟨_,ty,nf,hv⟩:=h
  exact fun n hn c hc=>hv.tor hn hc
 have hIF:IsS ePth (A0l ePth (A1d a)) (A1d a):=IsS.tree _ _
 have hsh:A5n a (A1d a)=shUp a (A1d a) a.length:=rfl
 rw[hsh]
 generalize A1d a=F at *
 generalize A0l ePth F=ft at *
 refine D2p.call rfl ?_
 unfold B9i
 refine A0a cx39 ?_
 simp -implicitDefEqProofs [cp]
 refine A0a cx39 ?_
 simp -implicitDefEqProofs [A0h,ag,tx39,gf]
 refine A0a cx39 ?_
 simp -implicitDefEqProofs
 refine A0q (fun _:Unit=>S43 t ft a.length (shUp a F a.length) a.length) (fun _=>True) (fun _=>rfl) ?_ ?_
 ·refine A0a cx39 ?_
  simp -implicitDefEqProofs [A0h,ht.len]
  refine A0g ?_
  refine A1a (fun n=>S43 t ft a.length (shUp a F n) n) a.length (fun _=>rfl) ?_ rfl ?_ ?_
  ·exact A0i (k:=0) (A0j.nil _ _ _ _) (by omega) (by omega) (by simp -implicitDefEqProofs [shUp,rowP,ren,under])
  ·intro n hn
   obtain⟨x,hx⟩:∃x,a[n]?=some x:=⟨_,List.getElem?_eq_getElem hn⟩
   have hxa:=hs.arcs x (List.mem_of_getElem? hx)
   have ea:A3x a n=x.arcs:=by unfold A3x;rw[B3l hx]
   have ix:=A9o ht hx
   have e1:IntKind.i64.wrap ((n:Int)+1)=((n+1:Nat):Int):=A0k (by omega) (by omega)
   have cn:A0s (.t (.ag [iv x.type,x.tree]))=some [.t (iv x.type),.t x.tree]:=rfl
   refine A0a cx39 ?_
   simp -implicitDefEqProofs [S43,hn]
   refine A0a cx39 ?_
   simp -implicitDefEqProofs
   refine A0q (fun _:Unit=>S43 t ft a.length (shUp a F (n+1)) n) (fun _=>True) (fun _=>rfl) ?_ ?_
   ·refine A0g ?_
    obtain⟨H0,hH0⟩:∃H0,H0=rowH eShr 68 0 (shUp a F n):=⟨_,rfl⟩
    have lt:∀cs,A0h true 2 H0 (.t (.pt (iv x.type::x.tree::cs)))=some (.t (.ag [iv x.type,x.tree])):=fun cs=>by simp[A0h]
    rw[<-hH0]
    refine A0a cx39 ?_
    simp -implicitDefEqProofs [ix,lt,A1e,cn,A1t]
    refine A0a cx39 ?_
    simp -implicitDefEqProofs [A0h,x.ok.len]
    refine A0g ?_
    refine A1a (fun k=>S43i t ft a.length n x.tree x.arcs.length (shIn a F n k) k) x.arcs.length (fun _=>rfl) ?_ rfl ?_ ?_
    ·have e0:shIn a F n 0=shUp a F n:=by simp[shIn]
     rw[hH0]
     unfold S43i
     rw[e0]
     exact A0i (k:=0) ((A0j.head' _ _ _ _).cons (by omega)) (by omega) (by omega) (by simp -implicitDefEqProofs [A0f,A0e,ren,under])
    ·intro k hk
     obtain⟨c,hc⟩:∃c,x.arcs[k]?=some c:=⟨_,List.getElem?_eq_getElem hk⟩
     have hto:=hbr n hn c (by rw[ea];exact List.mem_of_getElem? hc)
     obtain⟨f,to⟩:=c
     obtain⟨m,rfl⟩:∃m:Nat,to=(m:Int):=⟨to.toNat,by simp only at hto;omega⟩
     simp only[Int.toNat_natCast]at hto
     have hm:=hto.2
     have hnext:=F3q (a:=a) (F:=F) (n:=n) (by rw[ea];exact hc)
     have hol:=F7d (k:=k) hs F hn
     have ia:=A4d x.ok hc
     have ca:A0s (.t (.ag [iv f,iv (m:Int)]))=some [.t (iv f),.t (iv (m:Int))]:=rfl
     have e2:IntKind.i64.wrap ((k:Int)+1)=((k+1:Nat):Int):=A0k (by omega) (by omega)
     obtain⟨p,hp⟩:∃p,p=F.getD n []:=⟨_,rfl⟩
     obtain⟨q,hq⟩:∃q,q=F.getD m []:=⟨_,rfl⟩
     have hFp:=hfg n hn
     have hFq:=hfg m hm
     have hpl:=hfs n
     have hql:=hfs m
     have heq:eqsN F n ⟨f,(m:Int)⟩=if p++[f]=q then none else some (q,p++[f]):=by
      unfold eqsN
      rw[Int.toNat_natCast,<-hp,<-hq]
     rw[<-hp]at hFp hpl
     rw[<-hq]at hFq hql
     rw[heq]at hnext
     have i1:A1k 1 (.t ft) (.t (iv (n:Int)))=some (.t (.pt (A0l eInt p::rest ePth F n))):=hIF.iaddr hFp .i64
     have i2:A1k 1 (.t ft) (.t (iv (m:Int)))=some (.t (.pt (A0l eInt q::rest ePth F m))):=hIF.iaddr hFq .i64
     generalize shIn a F n k=out at *
     obtain⟨H1,hH1⟩:∃H1,H1=rowH eShr 68 0 out:=⟨_,rfl⟩
     have r0:A0j eShr 68 H1 0 out:=by rw[hH1];exact A0j.head' _ _ _ _
     obtain⟨ar,har⟩:∃ar,ar=Row.cells 81 [.t (iv f),.t (iv (m:Int))]:=⟨_,rfl⟩
     have lt2:∀cs,A0h true 2 H1 (.t (.pt (iv f::iv (m:Int)::cs)))=some (.t (.ag [iv f,iv (m:Int)])):=fun cs=>by simp[A0h]
     have lp:∀(H:Heap) c cs,A0h false 1 H (.t (.pt (c::cs)))=some (.t c):=fun _ _ _=>rfl
     have l8:∀H:Heap,Abs.look H 1=some ar->A0h false 1 H (.ptr 1 0)=some (.t (iv f))/\A0h false 1 H (.ptr 1 1)=some (.t (iv (m:Int))):=fun H hl=>by
      rw[har]at hl
      exact⟨by simp[A0h,hl],by simp[A0h,hl]⟩
     have ts:A7p 3 1 [.int .i64 0] 1 [(0,.t (iv f))]=some (.t (.sl 1 [iv f])):=rfl
     have hcl:=D6v (IsS.tree eInt p) (by omega) (fun e=>by rw[e];rfl) ((1,ar)::H1) 2
     obtain⟨b2,H2,n2,ap,r2,ne2,le2,lk2,ge2⟩:=A1j (e:=eInt) (ty:=3) (by':=8) (nx:=3) (m:=[f]) (A0j.head eInt 3 ((1,ar)::H1) 2 p) (A5a (t:=.sl 1 [iv f]) (.inr rfl)) (by simp;omega) (by simp;omega)
     have ap:appM 3 1 8 (rowH eInt 3 2 p++(1,ar)::H1) 3 (rowP eInt 2 p) (.t (.sl 1 [iv f]))=some (rowP eInt b2 (p++[f]),H2,n2):=ap
     have lkH:∀c,c≠2->c<3->Abs.look H2 c=Abs.look ((1,ar)::H1) c:=fun c h1 h2=>by rw[lk2 c h1 h2,B9l h1]
     have a1:=(l8 ((1,ar)::H1) rfl).1
     have a2:=(l8 (rowH eInt 3 2 p++(1,ar)::H1) (by rw[B9l (by omega)];rfl)).1
     have a3:=(l8 H2 (by rw[lkH 1 (by omega) (by omega)];rfl)).1
     refine A0a cx39 ?_
     unfold S43i
     rw[<-hH1]
     simp -implicitDefEqProofs [hk]
     refine A0a cx39 ?_
     simp -implicitDefEqProofs
     refine A0q (fun _:Unit=>S43i t ft a.length n x.tree x.arcs.length (shIn a F n (k+1)) k) (fun _=>True) (fun _=>rfl) ?_ ?_
     ·refine A0g ?_
      refine A0a cx39 ?_
      simp -implicitDefEqProofs [ia,lt2,A1e,ca,A1t]
      rw[<-har]
      refine A0a cx39 ?_
      simp -implicitDefEqProofs [i1,lp,a1,a2,a3,ts,hx30,hcl,ap]
      refine MC.sub (s':=⟨[(9,.t (A0l eInt (p++[f]))),(8,.ptr 1 0),(23,.t (iv (k:Int))),(22,.t (iv (x.arcs.length:Int))),(21,.t x.tree),(5,.t (iv (n:Int))),(15,.t (iv (n:Int))),(14,.t (iv (a.length:Int))),(13,.t t),(4,rowP eShr 0 out),(3,.t ft)],(1,ar)::H1,2,57⟩) ?_ rfl ?_
      ·refine F7c [b2] (by omega) (fun z hz=>?_) fun z hz=>?_
       ·rcases List.mem_cons.1 hz with rfl | hz
        ·refine⟨by simp;omega,⟨ar,by rw[lkH 1 (by omega) (by omega)];rfl,?_⟩,by simp,by rw[har];rfl⟩
         rw[har]
         rfl
        ·rw[hH1]at hz
         obtain⟨h1,rfl⟩:=A1i hz
         refine⟨by simp;omega,⟨_,by rw[lkH 0 (by omega) (by omega),look_cons,if_neg (by omega)];exact r0.resolve_left h1,F3p _⟩,by simp,A0x _ _ _ _⟩
       ·have r0':A0j eShr 68 H2 0 out:=r0.imp id fun h=>by rw[lkH 0 (by omega) (by omega),look_cons,if_neg (by omega)];exact h
        have f4:=F3o (b:=b2) r0' (by omega)
        have f9:=F7b r2
        simp only[List.mem_cons,List.not_mem_nil,or_false]at hz
        rcases hz with rfl | rfl | rfl | rfl | rfl | rfl | rfl | rfl | rfl | rfl | rfl
        ·exact⟨⟨_,rfl,f9⟩,rfl⟩
        ·exact⟨⟨_,rfl,rfl⟩,rfl⟩
        ·exact⟨⟨_,rfl,rfl⟩,rfl⟩
        ·exact⟨⟨_,rfl,rfl⟩,rfl⟩
        ·exact⟨⟨_,rfl,rfl⟩,rfl⟩
        ·exact⟨⟨_,rfl,rfl⟩,rfl⟩
        ·exact⟨⟨_,rfl,rfl⟩,rfl⟩
        ·exact⟨⟨_,rfl,rfl⟩,rfl⟩
        ·exact⟨⟨_,rfl,rfl⟩,rfl⟩
        ·exact⟨⟨_,rfl,f4⟩,A0e _ _ _ _ (by omega)⟩
        ·exact⟨⟨_,rfl,rfl⟩,rfl⟩
      ·have b1:=(l8 ((1,ar)::H1) rfl).2
       have gq:=G0f (IsS.tree eInt (p++[f])) (IsS.tree eInt q) (by simp;omega)
       by_cases e:p++[f]=q
       ·have ee:B3s (p++[f]) q=true:=decide_eq_true e
        rw[ee]at gq
        rw[if_pos e]at hnext
        refine A0c cx39 ?_
        simp -implicitDefEqProofs [b1,i2,lp,tx39,gq]
        refine Next.mk () trivial ?_
        rw[hnext]
        simp only[Option.toList_none,List.append_nil]
        rw[hH1]
        exact A0i (k:=0) ((A0j.head' _ _ _ _).cons (by omega)) (by omega) (by omega) (by simp -implicitDefEqProofs [A0f,A0e,ren,under])
       ·have ee:B3s (p++[f]) q=false:=decide_eq_false e
        rw[ee]at gq
        rw[if_neg e]at hnext
        have bd:∀{Φ:A1f} {H:Heap} {nx:Nat},A0m Φ H nx (.build [(0,1),(1,1)] [.slice none 0 0,.slice none 0 0] [0,1]) [.t (A0l eInt q),.t (A0l eInt (p++[f]))]=some (.t (.ag [A0l eInt q,A0l eInt (p++[f])]),H,nx):=by
         intro Φ H nx
         cases q<;>cases p<;>rfl
        have bs:A1l 68 2 [.slice none 0 0,.slice none 0 0] 1 [(0,.t (.ag [A0l eInt q,A0l eInt (p++[f])]))] 2=some (.row 2 0 1 2,.cells 68 [.t (A0l eInt q),.t (A0l eInt (p++[f]))]):=rfl
        obtain⟨b3,H3,n3,ap3,r3,ne3,le3,lk3,ge3⟩:=A1j (e:=eShr) (ty:=68) (by':=48) (nx:=3) (m:=[(q,p++[f])]) ((r0.cons (k:=1) (r:=ar) (by omega)).cons (k:=2) (r:=.cells 68 ((eShr.enc (q,p++[f])).map .t)) (by omega)) (A2w (b:=2) (ty:=68) (q,p++[f]) (by simp)) (by simp;omega) (by simp;omega)
        have ap3:appM 68 2 48 ((2,.cells 68 [.t (A0l eInt q),.t (A0l eInt (p++[f]))])::(1,ar)::H1) 3 (rowP eShr 0 out) (.row 2 0 1 2)=some (rowP eShr b3 (out++[(q,p++[f])]),H3,n3):=ap3
        refine A0c cx39 ?_
        simp -implicitDefEqProofs [b1,i2,lp,tx39,gq,-evalK_build,bd,bs,ap3]
        refine Next.mk () trivial ?_
        rw[hnext]
        simp only[Option.toList_some]
        exact A0i (k:=b3) r3 (by omega) (by omega) (by simp -implicitDefEqProofs [A0f,A0e,ren,under])
     ·rintro _ -
      refine A0c cx39 ?_
      simp -implicitDefEqProofs [S43i,e2]
      exact A0i (k:=0) (A0j.head' _ _ _ _) (by omega) (by omega) (by simp -implicitDefEqProofs [A0f,A0e,ren,under])
    ·refine A0c cx39 ?_
     simp -implicitDefEqProofs [S43i]
     refine Next.mk () trivial ?_
     rw[D7e,ea]
     exact A0i (k:=0) (A0j.head' _ _ _ _) (by omega) (by omega) (by simp -implicitDefEqProofs [A0f,A0e,ren,under])
   ·rintro _ -
    refine A0c cx39 ?_
    simp -implicitDefEqProofs [S43,e1]
    exact A0i (k:=0) (A0j.head' _ _ _ _) (by omega) (by omega) (by simp -implicitDefEqProofs [A0f,A0e,ren,under])
  ·refine A0c cx39 ?_
   simp -implicitDefEqProofs [S43]
   exact Next.mk () trivial (A0i (k:=0) (A0j.head' _ _ _ _) (by omega) (by omega) (by simp -implicitDefEqProofs [A0f,A0e,ren,under]))
 ·rintro _ -
  have tt:=A0j.toT (A0j.head' eShr 68 0 (shUp a F a.length))
  refine A0c cx39 ?_
  simp -implicitDefEqProofs [S43,tt]
noncomputable def E0k:List T->Option T:=g1 tFS fun a=>open Classical in if A3p a then some (A0l eShr (A5n a (A1d a)))else none
theorem E7g:GOK Try.prog G 43 E0k:=C2l fun u a r hu hr=>by
 obtain⟨t,rfl,ht⟩:=hu
 split at hr
 ·rename_i h
  injection hr with hr
  subst hr
  exact E0j ht h
 ·cases hr
theorem E7h (ht:IsS eNd t a) (h:A3p a):E0k [.ag [t]]=some (A0l eShr (A5n a (A1d a))):=(C2m (τ:=tFS) ⟨t,rfl,ht⟩).trans (if_pos h)
end
noncomputable def tx41:Tbl:=[(39,E3k),(42,F2v),(53,gHS),(43,E0k),(59,gPAt)]
theorem cx41:Ctx Try.prog G (orc tx41):=(A1q.cons D7b (.cons F2w (.cons E2n (.cons E7g (.cons F2u .nil))))).ctx A1w
def R29 (u v ta tb:T):Heap:=[(2,.cells 25 [.t tb]),(1,.cells 25 [.t ta]),(0,.cells 29 [.t u,.t v])]
def S29a (u v ta tb ft:T) (len n:Nat):A0b:=⟨[(20,.t (iv (n:Int))),(19,.t (iv (len:Int))),(18,.t ft),(5,.ptr 2 0),(4,.ptr 1 0),(3,.ptr 0 0)],R29 u v ta tb,3,79⟩
def S29b (u v ta tb st:T) (len k:Nat):A0b:=⟨[(49,.t (iv (k:Int))),(48,.t (iv (len:Int))),(47,.t st),(5,.ptr 2 0),(4,.ptr 1 0),(3,.ptr 0 0)],R29 u v ta tb,3,79⟩
theorem F7e {u v ta tb:T} {n nx:Nat} {env env':List (Nat×PV)} {H:Heap} (h:∀b,b<3->Abs.look H b=Abs.look (R29 u v ta tb) b) (he:∀q∈env',Abs.look env q.1=some q.2/\under 3 q.2=true):Sub Try.prog G 0 ⟨env,H,nx,n⟩ ⟨env',R29 u v ta tb,3,n⟩:=by
 refine C6j (by omega) (fun q hq=>?_) he
 simp only[R29,List.mem_cons,List.not_mem_nil,or_false]at hq
 rcases hq with rfl | rfl | rfl
 ·exact⟨by rw[h 2 (by omega)];rfl,by simp,rfl⟩
 ·exact⟨by rw[h 1 (by omega)];rfl,by simp,rfl⟩
 ·exact⟨by rw[h 0 (by omega)];rfl,by simp,rfl⟩
theorem C3j {ty:List Typ} {nf:Nat} {a:List Nd} (ha:A2j ty.length nf a) {n:Nat} (hn:n<a.length):0<=typN a n/\typN a n<(ty.length:Int):=ha.tyr hn
section
variable {u v ta tb : T} {h : List Typ × List Ft} {a b : List Nd}
set_option maxHeartbeats 4000000 in
theorem E0l (hu:IsS eTyp u h.1) (hv:IsS eFt v h.2) (hta:IsS eNd ta a) (htb:IsS eNd tb b) (ho:C6v h a b):A0y Try.prog G 29 [.ag [u,v],.ag [ta],.ag [tb]] (· = bv (B7l h.1 a b (A1d a))):=by
 obtain⟨hty,⟨va,vb⟩,sa,sb⟩:=ho
 have pa:A3p a:=⟨sa,h.1,h.2.length,va⟩
 have pb:A3p b:=⟨sb,h.1,h.2.length,vb⟩
 have cc:∀x:T,A0s (.t (.ag [x]))=some [.t x]:=fun _=>rfl
 have c2:A0s (.t (.ag [u,v]))=some [.t u,.t v]:=rfl
 have aa:∀x:T,agOf [.t x] = .t (.ag [x]):=fun _=>rfl
 have a2:agOf [.t u,.t v] = .t (.ag [u,v]):=rfl
 have gf:=D7c hta pa
 have gs:=E7h hta pa
 have hF:=pa.first
 have hFl:=hF.len
 have hfs:=pa.short
 have hfg:∀n,n<a.length->(A1d a)[n]?=some ((A1d a).getD n []):=fun n hn=>D7d pa hn
 have hal:=sa.len
 have hIF:IsS ePth (A0l ePth (A1d a)) (A1d a):=IsS.tree _ _
 have hIS:IsS eShr (A0l eShr (A5n a (A1d a))) (A5n a (A1d a)):=IsS.tree _ _
 have hsl:(A5n a (A1d a)).length<=100000000000:=by
  have:=D2u sa (A1d a) a.length (Nat.le_refl _)
  have e:A5n a (A1d a)=shUp a (A1d a) a.length:=rfl
  rw[e]
  have h5:a.length*1000000<=100000*1000000:=Nat.mul_le_mul_right _ (by omega)
  omega
 have hsm:∀z∈A5n a (A1d a),z.1.length<=200000/\z.2.length<=200000:=by
  intro z hz
  obtain⟨n,hn,c,hc,_,rfl⟩:=C1e.1 hz
  have h1:=hfs n
  have h2:=hfs c.to.toNat
  simp only[List.length_append,List.length_singleton]
  omega
 have hres:B7l h.1 a b (A1d a)=((List.range a.length).all (okN h.1 a b (A1d a))&&(A5n a (A1d a)).all (okS b)):=rfl
 rw[hres]
 have hokN:∀n,okN h.1 a b (A1d a) n=(match atL b ((A1d a).getD n [])with
  | some m=>hsub h.1 (typN a n) (typN b m)
  | none=>false):=fun _=>rfl
 generalize A5n a (A1d a)=S at *
 generalize hst:A0l eShr S=st at *
 generalize okN h.1 a b (A1d a)=okn at *
 generalize A1d a=F at *
 generalize hft:A0l ePth F=ft at *
 refine D6r.call rfl ?_
 unfold C2i
 refine A0a cx41 ?_
 simp -implicitDefEqProofs [cc,c2]
 obtain⟨B1,hB1⟩:∃B1,B1=(List.range a.length).all okn:=⟨_,rfl⟩
 obtain⟨B2,hB2⟩:∃B2,B2=S.all (okS b):=⟨_,rfl⟩
 obtain⟨k1,hk1,hb1,hc1⟩:∃k,k<=a.length/\(∀i,i<k->okn i=true)/\((k=a.length/\B1=true)\/(k<a.length/\okn k=false/\B1=false)):=by
  rw[hB1]
  rcases first_bad okn a.length with h | ⟨k,hk,h1,h2⟩
  ·exact⟨a.length,Nat.le_refl _,h,.inl ⟨rfl,List.all_eq_true.2 fun i hi=>h i (List.mem_range.1 hi)⟩⟩
  ·refine⟨k,by omega,h1,.inr ⟨hk,h2,?_⟩⟩
   rw[List.all_eq_false]
   exact⟨k,List.mem_range.2 hk,by rw[h2];simp⟩
 rw[<-hB1,<-hB2]
 refine A0q (fun _:Unit=>S29a u v ta tb ft a.length a.length) (fun _=>B1=true) (fun _=>rfl) ?_ ?_
 ·refine A0a cx41 ?_
  simp -implicitDefEqProofs [A0h,aa,tx41,gf,hIF.len,hFl]
  refine A0g ?_
  refine A1a (S29a u v ta tb ft a.length) k1 (fun _=>rfl) ?_ rfl ?_ ?_
  ·exact F7e (fun b hb=>by
    rcases (by omega:b=0\/b=1\/b=2)with rfl | rfl | rfl<;>rfl) (by simp -implicitDefEqProofs [S29a,under])
  ·intro n hn
   have hnl:n<a.length:=by omega
   have hk:=hb1 n hn
   rw[hokN]at hk
   have hfn:=hfg n hnl
   have hfl:=hfs n
   generalize F.getD n []=p at *
   have i1:A1k 1 (.t ft) (.t (iv (n:Int)))=some (.t (.pt (A0l eInt p::rest ePth F n))):=hIF.iaddr hfn .i64
   have gp:=D6s htb (IsS.tree eInt p) pb (by omega)
   have hx:=(va.nd hnl).2
   have ix:=A9o hta hx
   have e1:IntKind.i64.wrap ((n:Int)+1)=((n+1:Nat):Int):=A0k (by omega) (by omega)
   cases hm:atL b p with
   | none=>rw[hm]at hk;cases hk
   | some m=>
    rw[hm]at hk
    simp only at hk
    have e2:C1f b p = .tu [iv (typN b m),bv true]:=by unfold C1f;rw[hm]
    rw[e2]at gp
    have gh:=E2m hu hv hty (C3j va hnl) (C3j vb (vb.at_lt _ hm))
    rw[hk]at gh
    have e3:(ndAt a (n:Int)).type=typN a n:=rfl
    refine A0c cx41 ?_
    simp -implicitDefEqProofs (maxDischargeDepth:=8) [S29a,R29,hnl,i1,A0h,aa,a2,tx41,gp,extractV,ix,e3,gh,e1]
    exact F7e (fun b hb=>by
     rcases (by omega:b=0\/b=1\/b=2)with rfl | rfl | rfl<;>rfl) (by simp -implicitDefEqProofs [under])
  ·rcases hc1 with⟨e,h1⟩ | ⟨hnl,h1,h2⟩
   ·refine A0c cx41 ?_
    subst e
    simp -implicitDefEqProofs [S29a]
    exact Next.mk () h1 (A4n (by simp -implicitDefEqProofs [S29a]))
   ·have hk:=h1
    rw[hokN]at hk
    have hfn:=hfg k1 hnl
    have hfl:=hfs k1
    generalize F.getD k1 []=p at *
    have i1:A1k 1 (.t ft) (.t (iv (k1:Int)))=some (.t (.pt (A0l eInt p::rest ePth F k1))):=hIF.iaddr hfn .i64
    have gp:=D6s htb (IsS.tree eInt p) pb (by omega)
    have hx:=(va.nd hnl).2
    have ix:=A9o hta hx
    rw[h2]
    cases hm:atL b p with
    | none=>
     have e2:C1f b p = .tu [iv 0,bv false]:=by unfold C1f;rw[hm]
     rw[e2]at gp
     refine A0c cx41 ?_
     simp -implicitDefEqProofs (maxDischargeDepth:=8) [S29a,R29,hnl,i1,A0h,aa,a2,tx41,gp,extractV]
    | some m=>
     rw[hm]at hk
     simp only at hk
     have e2:C1f b p = .tu [iv (typN b m),bv true]:=by unfold C1f;rw[hm]
     rw[e2]at gp
     have gh:=E2m hu hv hty (C3j va hnl) (C3j vb (vb.at_lt _ hm))
     rw[hk]at gh
     have e3:(ndAt a (k1:Int)).type=typN a k1:=rfl
     refine A0c cx41 ?_
     simp -implicitDefEqProofs (maxDischargeDepth:=8) [S29a,R29,hnl,i1,A0h,aa,a2,tx41,gp,extractV,ix,e3,gh]
 ·rintro _ hall
  rw[hall,Bool.true_and]
  obtain⟨k2,hk2,hb2,hc2⟩:∃k,k<=S.length/\(∀(i:Nat) z,i<k->S[i]?=some z->okS b z=true)/\((k=S.length/\B2=true)\/∃z,S[k]?=some z/\okS b z=false/\B2=false):=by
   rw[hB2]
   rcases first_bad (fun i=>match S[i]? with
    | some z=>okS b z
    | none=>true) S.length with h | ⟨k,hk,h1,h2⟩
   ·refine⟨S.length,Nat.le_refl _,fun i z hi hz=>?_,.inl ⟨rfl,List.all_eq_true.2 fun z hz=>?_⟩⟩
    ·have:=h i hi
     rw[hz]at this
     exact this
    ·obtain⟨i,hi,e⟩:=List.getElem_of_mem hz
     have:=h i hi
     rw[List.getElem?_eq_getElem hi,e]at this
     exact this
   ·obtain⟨z,hz⟩:∃z,S[k]?=some z:=⟨_,List.getElem?_eq_getElem hk⟩
    rw[hz]at h2
    have h2:okS b z=false:=h2
    refine⟨k,by omega,fun i y hi hy=>?_,.inr ⟨z,hz,h2,?_⟩⟩
    ·have:=h1 i hi
     rw[hy]at this
     exact this
    ·rw[List.all_eq_false]
     exact⟨z,List.mem_of_getElem? hz,by rw[h2];simp⟩
  clear hB2 hB1 hall hb1 hc1 hokN hres
  refine A0q (fun _:Unit=>S29b u v ta tb st S.length S.length) (fun _=>B2=true) (fun _=>rfl) ?_ ?_
  ·refine A0a cx41 ?_
   simp -implicitDefEqProofs [S29a,R29,A0h,aa,tx41,gs,hIS.len]
   refine A0g ?_
   refine A1a (S29b u v ta tb st S.length) k2 (fun _=>rfl) ?_ rfl ?_ ?_
   ·exact F7e (fun b hb=>by
     rcases (by omega:b=0\/b=1\/b=2)with rfl | rfl | rfl<;>rfl) (by simp -implicitDefEqProofs [S29b,under])
   ·intro k hk
    have hkl:k<S.length:=by omega
    obtain⟨z,hz⟩:∃z,S[k]?=some z:=⟨_,List.getElem?_eq_getElem hkl⟩
    have hok:=hb2 k z hk hz
    obtain⟨hl1,hl2⟩:=hsm z (List.mem_of_getElem? hz)
    have i2:A1k 2 (.t st) (.t (iv (k:Int)))=some (.t (.pt (A0l eInt z.1::A0l eInt z.2::rest eShr S k))):=hIS.iaddr hz .i64
    have cz:A0s (.t (.ag [A0l eInt z.1,A0l eInt z.2]))=some [.t (A0l eInt z.1),.t (A0l eInt z.2)]:=rfl
    have e1:IntKind.i64.wrap ((k:Int)+1)=((k+1:Nat):Int):=A0k (by omega) (by omega)
    have g1:=C7b htb (IsS.tree eInt z.1) pb (by omega)
    have g2:=C7b htb (IsS.tree eInt z.2) pb (by omega)
    unfold okS at hok
    cases h1:atL b z.1 with
    | none=>rw[h1]at hok;cases hok
    | some m=>
     cases h2:atL b z.2 with
     | none=>rw[h1,h2]at hok;cases hok
     | some n=>
      rw[h1,h2]at hok
      have hmn:m=n:=of_decide_eq_true hok
      subst hmn
      have t1:atT b z.1 = .tu [iv (m:Int),bv true]:=by unfold atT;rw[h1]
      have t2:atT b z.2 = .tu [iv (m:Int),bv true]:=by unfold atT;rw[h2]
      rw[t1]at g1
      rw[t2]at g2
      generalize A0l eInt z.1=A at *
      generalize A0l eInt z.2=C at *
      refine A0c cx41 ?_
      simp -implicitDefEqProofs (maxDischargeDepth:=8) [S29b,R29,hkl,i2,A0h,A1e,cz,A1t,aa,tx41,g1,g2,extractV,e1]
      exact F7e (fun b hb=>by
       rcases (by omega:b=0\/b=1\/b=2)with rfl | rfl | rfl<;>rfl) (by simp -implicitDefEqProofs [under])
   ·rcases hc2 with⟨e,h1⟩ | ⟨z,hz,hok,hB⟩
    ·refine A0c cx41 ?_
     subst e
     simp -implicitDefEqProofs [S29b]
     exact Next.mk () h1 (A4n (by simp -implicitDefEqProofs [S29b]))
    ·rw[hB]
     have hkl:k2<S.length:=(List.getElem?_eq_some_iff.1 hz).1
     obtain⟨hl1,hl2⟩:=hsm z (List.mem_of_getElem? hz)
     have i2:A1k 2 (.t st) (.t (iv (k2:Int)))=some (.t (.pt (A0l eInt z.1::A0l eInt z.2::rest eShr S k2))):=hIS.iaddr hz .i64
     have cz:A0s (.t (.ag [A0l eInt z.1,A0l eInt z.2]))=some [.t (A0l eInt z.1),.t (A0l eInt z.2)]:=rfl
     have g1:=C7b htb (IsS.tree eInt z.1) pb (by omega)
     have g2:=C7b htb (IsS.tree eInt z.2) pb (by omega)
     unfold okS at hok
     cases h1:atL b z.1 with
     | none=>
      have t1:atT b z.1 = .tu [iv 0,bv false]:=by unfold atT;rw[h1]
      rw[t1]at g1
      obtain⟨y2,b2,t2⟩:∃(y:Int) (c:Bool),atT b z.2 = .tu [iv y,bv c]:=by
       unfold atT
       cases atL b z.2 with
       | none=>exact⟨0,false,rfl⟩
       | some n=>exact⟨(n:Int),true,rfl⟩
      rw[t2]at g2
      generalize A0l eInt z.1=A at *
      generalize A0l eInt z.2=C at *
      refine A0c cx41 ?_
      simp -implicitDefEqProofs (maxDischargeDepth:=8) [S29b,R29,hkl,i2,A0h,A1e,cz,A1t,aa,tx41,g1,g2,extractV]
     | some m=>
      have t1:atT b z.1 = .tu [iv (m:Int),bv true]:=by unfold atT;rw[h1]
      rw[t1]at g1
      cases h2:atL b z.2 with
      | none=>
       have t2:atT b z.2 = .tu [iv 0,bv false]:=by unfold atT;rw[h2]
       rw[t2]at g2
       generalize A0l eInt z.1=A at *
       generalize A0l eInt z.2=C at *
       refine A0c cx41 ?_
       simp -implicitDefEqProofs (maxDischargeDepth:=8) [S29b,R29,hkl,i2,A0h,A1e,cz,A1t,aa,tx41,g1,g2,extractV]
      | some n=>
       rw[h1,h2]at hok
       have hmn:¬m=n:=of_decide_eq_false hok
       have hne:((m:Int) !=(n:Int))=true:=by rw[bne_iff_ne];omega
       have t2:atT b z.2 = .tu [iv (n:Int),bv true]:=by unfold atT;rw[h2]
       rw[t2]at g2
       generalize A0l eInt z.1=A at *
       generalize A0l eInt z.2=C at *
       refine A0c cx41 ?_
       simp -implicitDefEqProofs (maxDischargeDepth:=8) [S29b,R29,hkl,i2,A0h,A1e,cz,A1t,aa,tx41,g1,g2,extractV,hne]
  ·rintro _ e
   rw[e]
   refine A0c cx41 ?_
   simp -implicitDefEqProofs [S29b]
noncomputable def E0m:List T->Option T:=g3 tH tFS tFS fun h a b=>open Classical in if C6v h a b then some (bv (B7l h.1 a b (A1d a)))else none
theorem E7i:GOK Try.prog G 29 E0m:=D4e fun x y z h a b r hx hy hz hr=>by
 obtain⟨u,v,rfl,hu,hv⟩:=hx
 obtain⟨ta,rfl,hta⟩:=hy
 obtain⟨tb,rfl,htb⟩:=hz
 split at hr
 ·rename_i h1;injection hr with hr;subst hr;exact E0l hu hv hta htb h1
 ·cases hr
theorem D0q (hu:IsS eTyp u h.1) (hv:IsS eFt v h.2) (hta:IsS eNd ta a) (htb:IsS eNd tb b) (ho:C6v h a b):E0m [.ag [u,v],.ag [ta],.ag [tb]]=some (bv (morB h.1 a b)):=by
 have e:B7l h.1 a b (A1d a)=morB h.1 a b:=E6w ho.2.1.1 ho.2.1.2 (E3f ho.2.1.1)
 rw[<-e]
 exact(D7v (τ:=tH) (σ:=tFS) (ρ:=tFS) (x:=h) ⟨u,v,rfl,hu,hv⟩ ⟨ta,rfl,hta⟩ ⟨tb,rfl,htb⟩).trans (if_pos ho)
end
noncomputable def tx42:Tbl:=[(15,F9x),(16,F9y),(17,gEx),(21,F2l),(29,E0m)]
theorem cx42:Ctx Try.prog G (orc tx42):=(A1q.cons F6l (.cons F6n (.cons G2e (.cons F6k (.cons E7i .nil))))).ctx A1w
set_option maxHeartbeats 2000000 in
theorem E7j {t ta tb:T} {d:List TD} {a b:List Nd} (ht:IsS eTD t d) (hd:d.length<=12->DOK d) (hta:IsS eNd ta a) (htb:IsS eNd tb b):A0y Try.prog G 8 [t,.ag [ta],.ag [tb]] (· = .v (.bool true)):=by
 have gh:=F6m ht hd
 obtain⟨h,hh⟩:∃h,h=hOf d:=⟨_,rfl⟩
 obtain⟨u,hu'⟩:∃u,u=A0l eTyp h.1:=⟨_,rfl⟩
 obtain⟨v,hv'⟩:∃v,v=A0l eFt h.2:=⟨_,rfl⟩
 have hu:IsS eTyp u h.1:=hu'▸IsS.tree _ _
 have hv:IsS eFt v h.2:=hv'▸IsS.tree _ _
 have hTd:hT d = .ag [u,v]:=by unfold hT;rw[<-hh,hu',hv']
 rw[hTd]at gh
 have c1:A0s (.t (.ag [u,v]))=some [.t u,.t v]:=rfl
 have c2:A0s (.t (.ag [ta]))=some [.t ta]:=rfl
 have c3:A0s (.t (.ag [tb]))=some [.t tb]:=rfl
 have a1:agOf [.t u,.t v] = .t (.ag [u,v]):=rfl
 have a2:agOf [.t ta] = .t (.ag [ta]):=rfl
 have a3:agOf [.t tb] = .t (.ag [tb]):=rfl
 have hsl:IsS eFS (.sl 2 [ta,tb]) [⟨ta,a,hta⟩,⟨tb,b,htb⟩]:=.inr rfl
 have gf:=F6o hu hv hsl (by simp)
 have bs:A1l 25 1 [.slice none 0 0] 2 [(0,.t (.ag [ta])),(1,.t (.ag [tb]))] 3=some (.row 3 0 2 1,.cells 25 [.t ta,.t tb]):=by
  rcases hta with⟨rfl,_⟩ | rfl<;>rcases htb with⟨rfl,_⟩ | rfl<;>rfl
 refine B9j.call rfl ?_
 unfold A8s
 refine A0a cx42 ?_
 simp -implicitDefEqProofs [c2,c3]
 refine A0a cx42 ?_
 simp -implicitDefEqProofs [tx42,gh,A1e,c1,A1t]
 cases hf:D2k h.1.length h.2.length [⟨ta,a,hta⟩,⟨tb,b,htb⟩]with
 | false=>
  rw[hf]at gf
  refine A0a cx42 ?_
  simp -implicitDefEqProofs [A0h,a1,a2,a3,bs,tx42,gf,F7t]
 | true=>
  rw[hf]at gf
  have hall:=F2h hf
  have hA:=hall ⟨ta,a,hta⟩ (by simp)
  have hB:=hall ⟨tb,b,htb⟩ (by simp)
  have hm:C6v h a b:=⟨by rw[hh];exact G2a hd,⟨hA.2,hB.2⟩,hA.1,hB.1⟩
  have s1:=D6o hu hv hta htb hm
  have s2:=D6o hu hv htb hta hm.symm
  have g1:=D0q hu hv hta htb hm
  have g2:=D0q hu hv htb hta hm.symm
  generalize morB h.1 a b=x at *
  generalize morB h.1 b a=y at *
  refine A0a cx42 ?_
  simp -implicitDefEqProofs [A0h,a1,a2,a3,bs,tx42,gf]
  refine A0c cx42 ?_
  simp -implicitDefEqProofs (maxDischargeDepth:=8) [A0h,a1,a2,a3,tx42,s1,s2,g1,g2,F7t]
end Go.Proofs.Ytbiadmfmjnoecaa
