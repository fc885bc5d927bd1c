/- Auxiliary facts. -/
import Derived.Test.YtmplckgbeaifkaaGreatDoorVCQ61
import Derived.Test.YtmplckgbeaifkaaGreatDoorVCQ59
import Derived.Test.YtmplckgbeaifkaaGreatDoorVCQ57
set_option linter.unusedSimpArgs false
set_option maxRecDepth 100000
set_option maxHeartbeats 0
set_option linter.unusedVariables false
namespace Go.Proofs.YtmplckgbeaifkaaGreatDoor
open Go Go.Abs
variable {q : Gl}
def B9f (c:IC):Bool->List IC->List IC
 | d,[]=>if d then []else [c]
 | d,y::r=>(if !d&&decide (¬cmpS y.x.id c.x.id<0)then [c]else [])++((if y.x.id=c.x.id then []else [y])++B9f c (d||decide (¬cmpS y.x.id c.x.id<0)) r)
theorem B9g (c:IC):∀r:List IC,(∀y∈r,y.x.id≠c.x.id)->B9f c true r=r
 | [],_=>rfl
 | y::r,h=>by
  rw[B9f];show []++((if y.x.id=c.x.id then []else [y])++B9f c true r)=_;rw[B9g c r fun z hz=>h z (by simp[hz]),if_neg (h y (by simp))];rfl
theorem E1t (c:IC):∀l:List IC,A8c l->B9f c false l=putC c l
 | [],_=>rfl
 | y::r,hs=>by
  have ih:=E1t c r hs.cons.1;rw[B9f,putC];by_cases h1:cmpS y.x.id c.x.id<0
  ·have hne:y.x.id≠c.x.id:=B9v h1;rw[if_pos h1,if_neg hne,decide_eq_false (by simpa using h1)];show []++([y]++B9f c false r)=_;rw[ih];rfl
  ·have hb:=E1e hs h1
   have hnr:∀z∈r,z.x.id≠c.x.id:=fun z hz e=>by have:=hb z hz;have:=A4v.2 e;omega
   rw[if_neg h1,decide_eq_true h1];by_cases h2:y.x.id=c.x.id
   ·rw[if_pos h2,if_pos (A4v.2 h2)];show [c]++([]++B9f c true r)=_;rw[B9g c r hnr];rfl
   ·rw[if_neg h2,if_neg (fun e=>h2 (A4v.1 e))];show [c]++([y]++B9f c true r)=_;rw[B9g c r hnr];rfl
theorem F6r (p id:ByteArray):A8v p id=decide (cmpS p id<0):=by
 have h:=C3v p id;have h2:=@C9c p id
 cases hl:A8v p id with
 | true=>
  rw[hl]at h;exact(decide_eq_true (h2.1 h.symm)).symm
 | false=>
  rw[hl]at h;refine(decide_eq_false fun e=>?_).symm;rw[h2.2 e]at h;cases h
theorem F6s {ver:ByteArray} {u:T} {l:List IC} {c:IC} (hs:A8c l) (hl:l.length<=256):putO ver u l c=if itE c.x≠0 then .tu [.ag [sv ver,u],iv (itE c.x)]else if 256<(putC c l).length then .tu [.ag [sv ver,u],iv 7]else .tu [.ag [sv ver,A1a eIC (putC c l)],iv 0]:=by
 unfold putO itE;by_cases h1:A0y false c.x.id=false
 ·rw[if_pos h1,if_pos h1];rfl
 rw[if_neg h1,if_neg h1];by_cases h2:chkR c.x=0
 rotate_left
 ·rw[if_pos h2,if_pos h2]
 rw[if_neg (show ¬chkR c.x≠0 from fun e=>e h2),if_neg (show ¬chkR c.x≠0 from fun e=>e h2)];have hp:=E1s (c:=c) hs;by_cases h3:(getC c.x.id l).isSome=true\/l.length<256
 ·rw[if_pos h3,if_neg];rw[hp];split
  ·omega
  ·rcases h3 with h3 | h3
   ·contradiction
   ·omega
 ·rw[if_neg h3,if_pos];rw[hp,if_neg (fun e=>h3 (.inl e))];have:¬l.length<256:=fun e=>h3 (.inr e);omega
def HPr (X Y:Row) (out:List IC):Heap:=[(2,bRow ⟨#[]⟩ nilS),(1,Y),(0,X)]++rowH eIC 28 3 out
def SPr (X Y:Row) (a:Nat×List IC×Bool):A0b:=⟨[(9,.t (iv (a.1:Int))),(8,.t (bv a.2.2)),(7,rowP eIC 3 a.2.1),(4,.ptr 2 0),(3,.ptr 1 0),(2,.ptr 0 0)],HPr X Y a.2.1,4,71⟩
theorem F6t (X Y:Row) (out:List IC):A1h eIC 28 (HPr X Y out) 3 out:=
 (A1h.head' eIC 28 3 out).imp (fun h=>h) fun h=>by
  show Abs.look ((2,bRow ⟨#[]⟩ nilS)::(1,Y)::(0,X)::rowH eIC 28 3 out) 3=_;rw[look_cons,if_neg (by omega),look_cons,if_neg (by omega),look_cons,if_neg (by omega)];exact h
theorem E1u {X Y:Row} {H:Heap} {k nx n:Nat} {out:List IC} {env env':List (Nat×PV)} (hX:∃(ty:Nat) (cs:List T),X = .cells ty (cs.map .t)) (hY:∃(ty:Nat) (cs:List T),Y = .cells ty (cs.map .t))
  (r:A1h eIC 28 H k out) (hk:3<=k) (k0:Abs.look H 0=some X) (k1:Abs.look H 1=some Y) (k2:Abs.look H 2=some (bRow ⟨#[]⟩ nilS))
  (he:∀q∈env',Abs.look env q.1=some (ren (fun x=>if x=3 then k else x) q.2)/\under 4 q.2=true):Abs.Sub Tryz.prog (G q) 0 ⟨env,H,nx,n⟩ ⟨env',HPr X Y out,4,n⟩:=by
 refine A7w (e:=eIC) (ty:=28) (b:=3) (k:=k) (l:=out) (R:=[(2,bRow ⟨#[]⟩ nilS),(1,Y),(0,X)]) r (by omega) (by omega) (fun z hz=>?_) he;obtain⟨ty,cs,hc⟩:=hX;obtain⟨ty',cs',hc'⟩:=hY;simp only[List.mem_cons,List.not_mem_nil,or_false]at hz;rcases hz with rfl | rfl | rfl
 ·exact⟨by rw[k2];rfl,by show 2<4;omega,by show 2≠3;omega,by show 2≠k;omega,rfl⟩
 ·exact⟨by rw[k1,hc'];simp[A2v,B4w],by show 1<4;omega,by show 1≠3;omega,by show 1≠k;omega,by rw[hc'];exact A1e _ _⟩
 ·exact⟨by rw[k0,hc];simp[A2v,B4w],by show 0<4;omega,by show 0≠3;omega,by show 0≠k;omega,by rw[hc];exact A1e _ _⟩
theorem F2t {ver:ByteArray} {u:T} {l:List IC} (hu:IsS eIC u l) (hs:A8c l) (hl:l.length<=256) (c:IC) (hc:SmI c.x):A0v Tryz.prog (G q) 40 [.ag [sv ver,u],.ag c.cs] (· = putO ver u l c):=by
 rw[F6s hs hl];have cd:A0q (.t (.ag [sv ver,u]))=some [.t (sv ver),.t u]:=rfl;have lu:=hu.len;have eI:=G1p c hc
 obtain⟨P,hP⟩:∃P,P=if itE c.x≠0 then T.tu [.ag [sv ver,u],iv (itE c.x)]else if 256<(putC c l).length then .tu [.ag [sv ver,u],iv 7]else .tu [.ag [sv ver,A1a eIC (putC c l)],iv 0]:=⟨_,rfl⟩
 rw[<-hP];obtain⟨tw,td,k,nm,f,t,tk,ks,ecs,_⟩:=A1g c.ok
 obtain⟨id,hid⟩:∃id,id=c.x.id:=⟨_,rfl⟩
 have cdx:A0q (.t (.ag c.cs))=some [.t (sv id),.t tw,.t (iv c.x.state),.t td,.t (iv k),.t (sv nm),.t (iv f),.t (iv t),.t tk]:=by rw[ecs,hid];rfl
 obtain⟨X,hX⟩:∃X,X=bRow ver u:=⟨_,rfl⟩
 obtain⟨Y,hY⟩:∃Y,Y=iRow id tw c.x.state td k nm f t tk:=⟨_,rfl⟩
 have hXc:∃(ty:Nat) (cs:List T),X = .cells ty (cs.map .t):=⟨_,[sv ver,u],hX⟩
 have hYc:∃(ty:Nat) (cs:List T),Y = .cells ty (cs.map .t):=⟨_,[sv id,tw,iv c.x.state,td,iv k,sv nm,iv f,iv t,tk],hY⟩
 have ldy:∀{H:Heap},Abs.look H 1=some Y->A0e true 9 H (.ptr 1 0)=some (.t (.ag c.cs)):=fun {H} h=>by
  rw[(ldI id tw c.x.state td k nm f t tk (H:=H) (b:=1) (by rw[h,hY])).a,ecs,hid]
 have ldi:∀{H:Heap},Abs.look H 1=some Y->A0e false 1 H (.ptr 1 0)=some (.t (sv id)):=fun {H} h=>(ldI id tw c.x.state td k nm f t tk (H:=H) (b:=1) (by rw[h,hY])).l0;have C:Ctx Tryz.prog (G q) _:=(A0x.cons (hRIt (q:=q)) .nil).ctx mixed
 obtain⟨M,hM⟩:∃M,M=putC c l:=⟨_,rfl⟩
 rw[<-hM]at hP
 have hMl:M.length<=257:=by rw[hM];have:=F1k c l;omega
 have ya:=ldy (H:=[(2,bRow ⟨#[]⟩ nilS),(1,Y),(0,X)]) rfl;have z:=ldB (ver:=ver) (u:=u) (H:=[(2,bRow ⟨#[]⟩ nilS),(1,Y),(0,X)]) (b:=0) (by rw[hX];rfl);refine F0x.call rfl ?_;(conv in D3z=>cbv);refine A0a C ?_;simp -implicitDefEqProofs [cd,cdx]
 rw[show Row.cells 39 [.t (sv ver),.t u]=X from hX.symm,show Row.cells 28 [.t (sv id),.t tw,.t (iv c.x.state),.t td,.t (iv k),.t (sv nm),.t (iv f),.t (iv t),.t tk]=Y from hY.symm,
  show Row.cells 39 [.t (.v (.string ⟨#[]⟩)),.t (.v (.slice none 0 0))]=bRow ⟨#[]⟩ nilS from rfl]
 refine A0a C ?_;simp -implicitDefEqProofs [ya,eI];by_cases h1:itE c.x=0
 rotate_left
 ·rw[if_pos h1]at hP
  have hb:(itE c.x != 0)=true:=by simpa using h1
  have s1:=sBu (H:=[(2,bRow ⟨#[]⟩ nilS),(1,Y),(0,X)]) (b:=2) (v:=ver) (u:=u) (v':=⟨#[]⟩) (u':=nilS) rfl hu;have s1:A0h 2 [(2,bRow ⟨#[]⟩ nilS),(1,Y),(0,X)] (.ptr 2 0) (.t (.ag [sv ver,u]))=some [(2,bRow ver u),(1,Y),(0,X)]:=s1;have w:=ldB (ver:=ver) (u:=u) (H:=[(2,bRow ver u),(1,Y),(0,X)]) (b:=2) rfl;refine A0a C ?_;simp -implicitDefEqProofs [hb,z.a,s1,w.a,hP]
 rw[if_neg (fun e=>e h1)]at hP;rw[h1];refine A0a C ?_;simp -implicitDefEqProofs;refine A0a C ?_;simp -implicitDefEqProofs;refine A0a C ?_;simp -implicitDefEqProofs;refine A0s (α:=List IC×Bool) (fun a=>⟨[(8,.t (bv a.2)),(7,rowP eIC 3 a.1),(4,.ptr 2 0),(3,.ptr 1 0),(2,.ptr 0 0)],HPr X Y a.1,4,71⟩) (fun a=>a.1.length<=1000000/\a.1++(if a.2 then []else [c])=M) (fun _=>rfl) ?_ ?_
 ·refine A0a C ?_;simp -implicitDefEqProofs;refine A0g ?_;refine A0t (SPr X Y) (fun a=>l.length-a.1) (fun a=>a.1<=l.length/\a.2.1.length<=2*a.1/\a.2.1++B9f c a.2.2 (l.drop a.1)=M) (0,[],false) (fun _=>rfl) ⟨Nat.zero_le _,Nat.le_refl _,by rw[hM];exact E1t c l hs⟩ ?_ rfl ?_
  ·exact E1u hXc hYc (A1h.nil _ _ _ _) (Nat.le_refl _) rfl rfl rfl (by simp -implicitDefEqProofs [SPr,rowP,ren,under])
  rintro⟨j,out,dn⟩ ⟨hj,hol,heq⟩;simp only at hj hol heq;have k0:Abs.look (HPr X Y out) 0=some X:=rfl;have k1:Abs.look (HPr X Y out) 1=some Y:=rfl;have k2:Abs.look (HPr X Y out) 2=some (bRow ⟨#[]⟩ nilS):=rfl;have ra:=F6t X Y out;unfold SPr
  obtain⟨H0,hH0⟩:∃H0,H0=HPr X Y out:=⟨_,rfl⟩
  simp only[<-hH0]at k0 k1 k2 ra ⊢;have z:=ldB (ver:=ver) (u:=u) (H:=H0) (b:=0) (by rw[k0,hX]);by_cases hlt:j<l.length
  ·obtain⟨y,hy⟩:∃y,l[j]?=some y:=⟨_,List.getElem?_eq_getElem hlt⟩
   obtain⟨pp,i1,ld9,ldid⟩:=B3h hu hy;have e1:IntKind.i64.wrap ((j:Int)+1)=((j+1:Nat):Int):=A0j (by omega) (by omega);have hbe:=B3m y.x.id id;have hle:=F6r y.x.id id;rw[List.drop_eq_getElem_cons hlt,(List.getElem?_eq_some_iff.1 hy).2,B9f,<-hid]at heq
   obtain⟨ge,hge⟩:∃ge,ge=decide (¬cmpS y.x.id id<0):=⟨_,rfl⟩
   have hle:A8v y.x.id id = !ge:=by
    rw[hle,hge];by_cases e:cmpS y.x.id id<0
    ·simp[e]
    ·simp[e]
   rw[<-hge]at heq;refine A1p ?_;refine A0c C ?_;simp -implicitDefEqProofs [z.l1,lu,hlt];refine⟨rfl,?_⟩;refine A1p ?_;refine A0g ?_;refine A0s (α:=List IC) (fun o=>⟨[(9,.t (iv (j:Int))),(8,.t (bv (dn||ge))),(7,rowP eIC 3 o),(4,.ptr 2 0),(3,.ptr 1 0),(2,.ptr 0 0)],HPr X Y o,4,71⟩) (fun o=>o.length<=2*j+1/\o++((if y.x.id=id then []else [y])++B9f c (dn||ge) (l.drop (j+1)))=M) (fun _=>rfl) ?_ ?_
   ·cases dn with
    | true=>
     refine A0c C ?_;simp -implicitDefEqProofs;refine Abs.Next.mk out ⟨by omega,heq⟩ ?_;rw[hH0];exact A0d (by simp -implicitDefEqProofs)
    | false=>
     cases ge with
     | false=>
      refine A0c C ?_;simp -implicitDefEqProofs [z.l1,i1,ldid,ldi k1,hle];refine Abs.Next.mk out ⟨by omega,heq⟩ ?_;rw[hH0];exact A0d (by simp -implicitDefEqProofs)
     | true=>
      have bs:=bsC c 4;obtain⟨b',H',nx',ap,r',ge',lk⟩:=appC c ra (nx:=4) (by omega) (by omega)
      have q0:Abs.look H' 0=some X:=by rw[lk 0 (by omega) (by omega)];exact k0
      have q1:Abs.look H' 1=some Y:=by rw[lk 1 (by omega) (by omega)];exact k1
      have q2:Abs.look H' 2=some (bRow ⟨#[]⟩ nilS):=by rw[lk 2 (by omega) (by omega)];exact k2
      obtain⟨O2,hO2⟩:∃O2,O2=out++[c]:=⟨_,rfl⟩
      rw[<-hO2]at ap r';refine A0c C ?_;simp -implicitDefEqProofs [z.l1,i1,ldid,ldi k1,hle,ldy k1,bs,ap];refine Abs.Next.mk O2 ⟨by rw[hO2];simp;omega,by rw[hO2,<-heq];simp⟩ ?_;exact E1u hXc hYc r' (by omega) q0 q1 q2 (by simp -implicitDefEqProofs [A3p,A2h,ren,under])
   ·rintro o ⟨hol2,heq2⟩;have k0:Abs.look (HPr X Y o) 0=some X:=rfl;have k1:Abs.look (HPr X Y o) 1=some Y:=rfl;have k2:Abs.look (HPr X Y o) 2=some (bRow ⟨#[]⟩ nilS):=rfl;have ra:=F6t X Y o
    obtain⟨H0,hH0⟩:∃H0,H0=HPr X Y o:=⟨_,rfl⟩
    simp only[<-hH0]at k0 k1 k2 ra ⊢;have z:=ldB (ver:=ver) (u:=u) (H:=H0) (b:=0) (by rw[k0,hX]);generalize (dn||ge)=dg at *;by_cases h2:y.x.id=id
    ·rw[if_pos h2]at heq2;rw[decide_eq_true h2]at hbe;refine A0c C ?_;simp -implicitDefEqProofs [z.l1,i1,ldid,ldi k1,hbe];refine⟨rfl,?_⟩;refine A0c C ?_;simp -implicitDefEqProofs [e1];refine Abs.Next.mk (j+1,o,dg) ⟨⟨by show j+1<=_;omega,by show o.length<=2*(j+1);omega,heq2⟩,by show l.length-(j+1)<l.length-j;omega⟩ ?_;rw[hH0];exact A0d (by simp -implicitDefEqProofs)
    ·rw[if_neg h2]at heq2;rw[decide_eq_false h2]at hbe;have bs:=bsC y 4;obtain⟨b',H',nx',ap,r',ge',lk⟩:=appC y ra (nx:=4) (by omega) (by omega)
     have q0:Abs.look H' 0=some X:=by rw[lk 0 (by omega) (by omega)];exact k0
     have q1:Abs.look H' 1=some Y:=by rw[lk 1 (by omega) (by omega)];exact k1
     have q2:Abs.look H' 2=some (bRow ⟨#[]⟩ nilS):=by rw[lk 2 (by omega) (by omega)];exact k2
     obtain⟨O2,hO2⟩:∃O2,O2=o++[y]:=⟨_,rfl⟩
     rw[<-hO2]at ap r';refine A0c C ?_;simp -implicitDefEqProofs [z.l1,i1,ldid,ldi k1,hbe,ld9,bs,ap];refine⟨rfl,?_⟩;refine A0c C ?_;simp -implicitDefEqProofs [e1];refine Abs.Next.mk (j+1,O2,dg) ⟨⟨by show j+1<=_;omega,by show O2.length<=2*(j+1);rw[hO2];simp;omega,by show O2++_=M;rw[hO2,<-heq2];simp⟩,by show l.length-(j+1)<l.length-j;omega⟩ ?_;exact E1u hXc hYc r' (by omega) q0 q1 q2 (by simp -implicitDefEqProofs [A3p,A2h,ren,under])
  ·have hjl:j=l.length:=by omega
   subst hjl
   have hn:out++(if dn then []else [c])=M:=by rw[<-heq,List.drop_length,B9f]
   refine A1p ?_;refine A0c C ?_;simp -implicitDefEqProofs [z.l1,lu];refine Abs.Next.mk (out,dn) ⟨by show out.length<=_;omega,hn⟩ ?_;rw[hH0];exact A0d (by simp -implicitDefEqProofs)
 ·rintro⟨out,dn⟩ ⟨hol,heq⟩;simp only at hol heq;refine A0s (α:=Unit) (fun _=>⟨[(7,rowP eIC 3 M),(4,.ptr 2 0),(3,.ptr 1 0),(2,.ptr 0 0)],HPr X Y M,4,71⟩) (fun _=>True) (fun _=>rfl) ?_ ?_
  ·have k0:Abs.look (HPr X Y out) 0=some X:=rfl;have k1:Abs.look (HPr X Y out) 1=some Y:=rfl;have k2:Abs.look (HPr X Y out) 2=some (bRow ⟨#[]⟩ nilS):=rfl;have ra:=F6t X Y out
   obtain⟨H0,hH0⟩:∃H0,H0=HPr X Y out:=⟨_,rfl⟩
   simp only[<-hH0]at k0 k1 k2 ra ⊢
   cases dn with
   | true=>
    have hn:out=M:=by simpa using heq
    subst hn;refine A0c C ?_;simp -implicitDefEqProofs;refine Abs.Next.mk () trivial ?_;rw[hH0];exact A0d (by simp -implicitDefEqProofs)
   | false=>
    have hn:out++[c]=M:=by simpa using heq
    have bs:=bsC c 4;obtain⟨b',H',nx',ap,r',ge',lk⟩:=appC c ra (nx:=4) (by omega) (by omega)
    have q0:Abs.look H' 0=some X:=by rw[lk 0 (by omega) (by omega)];exact k0
    have q1:Abs.look H' 1=some Y:=by rw[lk 1 (by omega) (by omega)];exact k1
    have q2:Abs.look H' 2=some (bRow ⟨#[]⟩ nilS):=by rw[lk 2 (by omega) (by omega)];exact k2
    rw[hn]at ap r';refine A0c C ?_;simp -implicitDefEqProofs [ldy k1,bs,ap];refine Abs.Next.mk () trivial ?_;exact E1u hXc hYc r' (by omega) q0 q1 q2 (by simp -implicitDefEqProofs [A3p,A2h,ren,under])
  rintro _ -;have k0:Abs.look (HPr X Y M) 0=some X:=rfl;have k2:Abs.look (HPr X Y M) 2=some (bRow ⟨#[]⟩ nilS):=rfl;have ra:=F6t X Y M
  obtain⟨H0,hH0⟩:∃H0,H0=HPr X Y M:=⟨_,rfl⟩
  simp only[<-hH0]at k0 k2 ra ⊢;have z:=ldB (ver:=ver) (u:=u) (H:=H0) (b:=0) (by rw[k0,hX]);have lr:=B3u eIC 3 M;by_cases h2:256<M.length
  ·rw[if_pos h2]at hP
   have hb:(256:Int)<(M.length:Int):=by omega
   have s1:=sBu (H:=H0) (b:=2) (v:=ver) (u:=u) (v':=⟨#[]⟩) (u':=nilS) k2 hu;have y:=ldB (ver:=ver) (u:=u) (H:=upd H0 2 (bRow ver u)) (b:=2) (A1s k2);refine A0a C ?_;simp -implicitDefEqProofs [lr,hb,z.a,s1,y.a,hP]
  ·rw[if_neg h2]at hP
   have hb:¬(256:Int)<(M.length:Int):=by omega
   have bd:=fun Φ H nx=>bd2p Φ H nx ver M 3;have st:=st2p (v:=ver) (c:=3) (m:=M) k2
   obtain⟨H4,hH4⟩:∃H4,H4=upd H0 2 (oRow ver (rowP eIC 3 M)):=⟨_,rfl⟩
   rw[<-hH4]at st
   have k4:Abs.look H4 2=some (oRow ver (rowP eIC 3 M)):=by rw[hH4];exact A1s k2
   have r4:A1h eIC 28 H4 3 M:=ra.imp (fun h=>h) fun h=>by rw[hH4,A1k,if_neg (by omega)];exact h
   obtain⟨A,hA⟩:∃A,A=agOf [.t (sv ver),rowP eIC 3 M]:=⟨_,rfl⟩
   rw[<-hA]at bd st;have frz4:=A7c (F:=[3]) r4 (by simp)
   obtain⟨RP,hRP⟩:∃RP,RP=rowP eIC 3 M:=⟨_,rfl⟩
   rw[<-hRP]at lr bd ⊢;refine A0a C ?_;simp -implicitDefEqProofs [lr,hb];refine A0a C ?_;simp -implicitDefEqProofs [z.l0,bd,st,-evalK_build];refine MC.sub (s':=⟨[(4,.ptr 2 0),(5,.t (iv 0))],[(2,bRow ver (A1a eIC M))],3,71⟩) ?_ rfl ?_
   ·refine A8b [3] (by omega) (fun z hz=>?_) fun z hz=>?_
    ·simp only[List.mem_singleton]at hz;subst hz;refine⟨by simp,⟨oRow ver (rowP eIC 3 M),k4,?_⟩,by show 2<3;omega,by exact A1e _ [sv ver,A1a eIC M]⟩;show Row.cells _ [.t (sv ver),frzP _ _ (rowP eIC 3 M)]=_;rw[frz4];rfl
    ·simp only[List.mem_cons,List.not_mem_nil,or_false]at hz;rcases hz with rfl | rfl
     ·exact⟨⟨_,rfl,rfl⟩,rfl⟩
     ·exact⟨⟨_,rfl,rfl⟩,rfl⟩
   have y:=ldB (ver:=ver) (u:=A1a eIC M) (H:=[(2,bRow ver (A1a eIC M))]) (b:=2) rfl;refine A0c C ?_;simp -implicitDefEqProofs [y.a,hP]
theorem hRPt:GOK Tryz.prog (G q) 40 gPt:=F8g F2t
theorem F2u {tb:List T} (b:TBI tb) (c:IC) (hc:SmI c.x):A0v Tryz.prog (G q) 9 [.ag tb,.ag c.cs] (· = bv true):=by
 have eL:=b.lt;have eC:=b.ck;have eI:=D4z c hc;have eX:gEx []=some (bv true):=rfl;have cd:A0q (.t (.ag tb))=some (tb.map .t):=rfl;have cd2:A0q (.t (.ag c.cs))=some (c.cs.map .t):=rfl
 obtain⟨X,hX⟩:∃X,X=Row.cells 39 (tb.map .t):=⟨_,rfl⟩
 obtain⟨Y,hY⟩:∃Y,Y=Row.cells 28 (c.cs.map .t):=⟨_,rfl⟩
 have lX:∀H b,Abs.look H b=some X->A0e true 2 H (.ptr b 0)=some (.t (.ag tb)):=fun H k h=>ldT (h.trans (by rw[hX])) b.len;have lY:∀H b,Abs.look H b=some Y->A0e true 9 H (.ptr b 0)=some (.t (.ag c.cs)):=fun H k h=>ldT (h.trans (by rw[hY])) (A9x c);have C:Ctx Tryz.prog (G q) _:=(A0x.cons (hLB (q:=q)) (.cons (D7p (q:=q)) (.cons (hLI (q:=q)) (.cons (hPt2 (q:=q)) (.cons (hRPt (q:=q)) (.cons (hSB (q:=q)) (.cons (D4v (q:=q)) .nil))))))).ctx mixed;refine B7u.call rfl ?_;(conv in A9j=>cbv);refine A0a C ?_;simp -implicitDefEqProofs [cd,cd2];rw[<-hX,<-hY]
 cases hl:ltB b.tb with
 | false=>
  rw[hl]at eL;refine A0a C ?_;simp -implicitDefEqProofs [lX,eL,eX]
 | true=>
 rw[hl]at eL;by_cases hk:chkT b.tb=0
 rotate_left
 ·have hb:(chkT b.tb != 0)=true:=by simpa using hk
  refine A0a C ?_;simp -implicitDefEqProofs [lX,eL,eC,hb,eX]
 have hb:(chkT b.tb != 0)=false:=by simpa using hk
 cases hi:ltI c.x with
 | false=>
  rw[hi]at eI;refine A0a C ?_;simp -implicitDefEqProofs [lX,eL,eC,hb,lY,eI,eX]
 | true=>
 rw[hi]at eI;refine A0a C ?_;simp -implicitDefEqProofs [lX,eL,eC,hb,lY,eI];obtain⟨cs',e,b',eP,_⟩:=b.put hk c hc;have eS:=b'.same b' rfl
 obtain⟨R,hR⟩:∃R,R=Row.cells 39 (cs'.map .t):=⟨_,rfl⟩
 have lR:∀H b,Abs.look H b=some R->A0e true 2 H (.ptr b 0)=some (.t (.ag cs')):=fun H k h=>ldT (h.trans (by rw[hR])) b'.len
 have sR:∀(H:Heap) (k:Nat),A0h 2 ((k,.cells 39 [.t (.v (.string ⟨#[]⟩)),.t (.v (.slice none 0 0))])::H) (.ptr k 0) (.t (.ag cs'))=some ((k,R)::H):=fun H k=>by
  rw[hR];exact sNew rfl b'.len (by decide) H k
 refine A0a C ?_;simp -implicitDefEqProofs [lX,lY,eP,sR];refine A0a C ?_;simp -implicitDefEqProofs [lX,lY,eP,sR];refine A0c C ?_;simp -implicitDefEqProofs [lR,eS,eX]
end Go.Proofs.YtmplckgbeaifkaaGreatDoor
