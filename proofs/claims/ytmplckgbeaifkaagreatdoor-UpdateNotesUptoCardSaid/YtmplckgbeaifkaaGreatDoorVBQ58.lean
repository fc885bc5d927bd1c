/-
 Auxiliary facts. No statement of the program stands here.
-/
import Derived.Test.YtmplckgbeaifkaaGreatDoorVBQ54
import Derived.Test.YtmplckgbeaifkaaGreatDoorVBQ57
import Derived.Test.YtmplckgbeaifkaaGreatDoorVBQ41
namespace Go.Proofs.YtmplckgbeaifkaaGreatDoor
set_option linter.unusedSimpArgs false
set_option linter.unusedVariables false
open Go Go.Abs
variable {q : Gl}
set_option maxHeartbeats 4000000 in
theorem E8k (a b:IC) (n:Nt) {tl:T} {m:List DC} (hm:IsS eDC tl m) (hk:n.kind=B0a a.x b.x (dvs m)) (h1:a.x.state≠1->b.x.state=a.x.state) (h2:m.length=0->a.x.state=1->b.x.state≠1) (ha:nodD a.x.gold<=1000000) (hb:nodD b.x.gold<=1000000) :
  A0w Tryz.prog (G q) 29 [.ag a.cs,.ag b.cs,.ag (eNt.enc n),tl] (· = bv true):=by
 unfold B0a at hk;obtain⟨tw,td,k,nm,f,t,tk,ks,ecs,hg,hk',hw,hd,hgD⟩:=A1a a.ok;obtain⟨tw',td',k',nm',f',t',tk',ks',ecs',hg',hk'',hw',hd',hgD'⟩:=A1a b.ok;rw[ecs,ecs'];have lm:=hm.len;have eC:=A9r hgD hgD' ha hb;rw[show(dvs m).length=m.length from List.length_map _]at hk;obtain⟨ni,nk,nd⟩:=n;simp only at hk;generalize cmpD a.x.gold b.x.gold=cz at *;generalize a.x.id=id at *;generalize b.x.id=id' at *;generalize a.x.state=st at *;generalize b.x.state=st' at *;generalize m.length=ml at *;have cd:=A3c id tw st td k nm f t tk;have cd':=A3c id' tw' st' td' k' nm' f' t' tk';have cn:A1m (.t (.ag (eNt.enc ⟨ni,nk,nd⟩)))=some [.t (sv ni),.t (iv nk),.t (iv nd)]:=rfl
 obtain⟨X,hX⟩:∃X,X=iRow id tw st td k nm f t tk:=⟨_,rfl⟩
 obtain⟨Y,hY⟩:∃Y,Y=iRow id' tw' st' td' k' nm' f' t' tk':=⟨_,rfl⟩
 obtain⟨Z,hZ⟩:∃Z:Row,Z = .cells 49 [.t (sv ni),.t (iv nk),.t (iv nd)]:=⟨_,rfl⟩
 have z:=ldI id tw st td k nm f t tk (H:=[(2,Z),(1,Y),(0,X)]) (b:=0) (by rw[hX];rfl);have y:=ldI id' tw' st' td' k' nm' f' t' tk' (H:=[(2,Z),(1,Y),(0,X)]) (b:=1) (by rw[hY];rfl)
 have n1:A0g false 1 [(2,Z),(1,Y),(0,X)] (.ptr 2 1)=some (.t (iv nk)):=by rw[hZ];rfl
 have C:Ctx Tryz.prog (G q) _:=(A0y.cons (D2w (q:=q)) .nil).ctx mixed;refine E0t.call rfl ?_;unfold C4h;refine A0a C ?_;simp -implicitDefEqProofs [cd,cd',cn];rw[show Row.cells 28 [.t (sv id),.t tw,.t (iv st),.t td,.t (iv k),.t (sv nm),.t (iv f),.t (iv t),.t tk]=X from hX.symm];rw[show Row.cells 28 [.t (sv id'),.t tw',.t (iv st'),.t td',.t (iv k'),.t (sv nm'),.t (iv f'),.t (iv t'),.t tk']=Y from hY.symm];rw[show Row.cells 49 [.t (sv ni),.t (iv nk),.t (iv nd)]=Z from hZ.symm];refine A0c C ?_;by_cases h3:st=1
 rotate_left
 ·rw[if_pos h3]at hk;subst hk;have e:=h1 h3;subst e
  have b1:(st'==1)=false:=by simpa using h3
  simp -implicitDefEqProofs [z.l2,y.l2,z.g,y.g,n1,eC,b1]
 subst h3;rw[if_neg (by simp)]at hk;by_cases h4:ml=0
 ·rw[if_pos h4]at hk;subst hk;have e:=h2 h4 rfl;subst h4
  have b1:(st'==1)=false:=by simpa using e
  have lm:A7k (.t tl)=some (.t (.v (.int .i64 0))):=lm;simp -implicitDefEqProofs [z.l2,y.l2,z.g,y.g,n1,eC,b1,lm]
 rw[if_neg h4]at hk
 have b4:0<ml:=by omega
 by_cases h5:st'=1
 rotate_left
 ·rw[if_pos h5]at hk;subst hk
  have b1:(st'==1)=false:=by simpa using h5
  simp -implicitDefEqProofs [z.l2,y.l2,z.g,y.g,n1,eC,b1,lm,b4]
 subst h5;rw[if_neg (by simp)]at hk;by_cases h6:cz=0
 ·rw[if_pos h6]at hk;subst hk;subst h6;simp -implicitDefEqProofs [z.l2,y.l2,z.g,y.g,n1,eC]
 ·rw[if_neg h6]at hk;subst hk
  have b6:(cz==0)=false:=by simpa using h6
  simp -implicitDefEqProofs [z.l2,y.l2,z.g,y.g,n1,eC,b6]
theorem F1z {x:It} {l:List Dv} (h:x.state≠1):(repI x l).state=x.state:=by
 unfold repI;simp only[if_neg h]
theorem E8l {x:It} {l:List Dv} (h:l.length=0) (h1:x.state=1):(repI x l).state≠1:=by
 obtain rfl:l=[]:=List.eq_nil_of_length_eq_zero h;intro e;have:=(D7g e).2;have:=(B1u this).1;cases this
theorem nt_at {u:T} {l:List Nt} (h:IsS eNt u l) {i:Nat} {n:Nt} (hx:l[i]?=some n):∃p,A1o 3 (.t u) (.t (iv (i:Int)))=some (.t (.pt p))/\(∀H,A0g true 3 H (.t (.pt p))=some (.t (.ag (eNt.enc n)))) /\
  (∀H,A0g false 1 H (.t (.pt p))=some (.t (sv n.id)))/\(∀H,A0g false 1 H (.t (.pt (p.drop 2)))=some (.t (iv n.drop))):=by
 refine⟨_,h.iaddr hx .i64,fun H=>?_,fun H=>rfl,fun H=>rfl⟩;simp only[A0g,if_true];rw[if_pos (by simp[eNt])];rfl
def C7b:ByteArray:=⟨#[110,101,120,116]⟩
def SNt1 (X:Row) (tl:T) (j:Nat):A0b:=⟨[(5,.t (iv (j:Int))),(2,.ptr 0 0),(1,.t tl)],[(0,X)],1,170⟩
def SNt2 (X Z:Row) (tl tn:T) (j:Nat):A0b:=⟨[(9,.t (iv (j:Int))),(7,.t tn),(6,.ptr 1 0),(2,.ptr 0 0),(1,.t tl)],[(1,Z),(0,X)],2,170⟩
set_option maxHeartbeats 16000000 in
theorem C7c {ver:ByteArray} {u tl:T} {l:List IC} {rs:List RD} (hu:IsS eIC u l) (hr:IsS eRD tl rs) (hb:SmB ver l) (hds:∀c∈l,c.x.decs.length<=200000) :
  A0w Tryz.prog (G q) 5 [.ag [sv ver,u],tl] (· = bv true):=by
 have cd:A1m (.t (.ag [sv ver,u]))=some [.t (sv ver),.t u]:=rfl;have l1:=hu.len;have l2:=hr.len;have hll:=hb.len;have eX:gEx []=some (bv true):=rfl;have eC:=C6y hu hb;have C:Ctx Tryz.prog (G q) _:=(A0y.cons (E1e (q:=q)) (.cons (F5z (q:=q)) (.cons (hLiI (q:=q)) (.cons (hFew (q:=q)) (.cons (F1u (q:=q)) .nil))))).ctx mixed
 obtain⟨X,hX⟩:∃X,X=bRow ver u:=⟨_,rfl⟩
 have hXc:∃(ty:Nat) (cs:List T),X = .cells ty (cs.map .t):=⟨_,[sv ver,u],hX⟩
 have z:=ldB (ver:=ver) (u:=u) (H:=[(0,X)]) (b:=0) (by rw[hX];rfl);refine B6f.call rfl ?_;unfold A8s;refine A0a C ?_;simp -implicitDefEqProofs [cd];rw[show Row.cells 39 [.t (sv ver),.t u]=X from hX.symm];by_cases h1:4<l.length
 ·have b1:decide ((4:Int)<(l.length:Int))=true:=by simpa using (by omega:(4:Int)<(l.length:Int))
  refine A0a C ?_;simp -implicitDefEqProofs [z.l1,l1,b1,eX]
 have b1:decide ((4:Int)<(l.length:Int))=false:=by simpa using (by omega:(l.length:Int)<=4)
 by_cases h2:rs.length=l.length
 rotate_left
 ·have b2:((rs.length:Int) !=(l.length:Int))=true:=by simpa using (by omega:¬(rs.length:Int)=(l.length:Int))
  refine A0a C ?_;simp -implicitDefEqProofs [z.l1,l1,l2,b1,b2,eX]
 have b2:((rs.length:Int) !=(l.length:Int))=false:=by rw[h2];simp
 by_cases h3:chkT ⟨ver,l.map IC.x⟩=0
 rotate_left
 ·have b3:(chkT ⟨ver,l.map IC.x⟩ != 0)=true:=by simpa using h3
  refine A0a C ?_;simp -implicitDefEqProofs [z.l1,z.a,l1,l2,b1,b2,eC,b3,eX]
 rw[h3]at eC;refine A0a C ?_;simp -implicitDefEqProofs [z.l1,z.a,l1,l2,b1,b2,eC];refine A0o (α:=Unit) (fun _=>⟨[(2,.ptr 0 0),(1,.t tl)],[(0,X)],1,170⟩) (fun _=>∀r:RD,r∈rs->SmK (dvs r.m)/\ascD (dvs r.m)=true) (fun _=>rfl) ?_ ?_
 ·refine A0a C ?_;simp -implicitDefEqProofs;refine A0f ?_;refine A0k (SNt1 X tl) (fun j=>rs.length-j) (fun j=>j<=rs.length/\∀r:RD,r∈rs.take j->SmK (dvs r.m)/\ascD (dvs r.m)=true) 0 (fun _=>rfl) ⟨Nat.zero_le _,by simp⟩ ?_ rfl ?_
  ·refine A0d ?_;simp -implicitDefEqProofs [SNt1]
  rintro j ⟨hj,hsm⟩;by_cases hlt:j<rs.length
  ·obtain⟨r,hrx⟩:∃r,rs[j]?=some r:=⟨_,List.getElem?_eq_getElem hlt⟩
   obtain⟨c,hc⟩:∃c,l[j]?=some c:=⟨_,List.getElem?_eq_getElem (by omega)⟩
   obtain⟨pp,i1,ld9,_⟩:=B7y hu hc;obtain⟨p1,i2,ldr⟩:=E7x hr hrx;have eL:=D4f c;have eF:=C1n r.ok.isK;have e1:IntKind.i64.wrap ((j:Int)+1)=((j+1:Nat):Int):=A0h (by omega) (by omega);refine A0c C ?_
   cases hL:B5b c.x with
   | false=>
    rw[hL]at eL;simp -implicitDefEqProofs [SNt1,z.l1,l2,hlt,i1,ld9,eL,eX]
   | true=>
   rw[hL]at eL
   cases hf:fewD 0 (dvs r.m)with
   | false=>
    rw[show fewD 0 (r.m.map DC.d)=false from hf]at eF;simp -implicitDefEqProofs [SNt1,z.l1,l2,hlt,i1,ld9,eL,i2,ldr,eF,eX]
   | true=>
   rw[show fewD 0 (r.m.map DC.d)=true from hf]at eF;have hsr:=D0z hf;have eA:=B8t r.ok.isK hsr
   cases hasc:ascD (dvs r.m)with
   | false=>
    rw[show ascD (r.m.map DC.d)=false from hasc]at eA;simp -implicitDefEqProofs [SNt1,z.l1,l2,hlt,i1,ld9,eL,i2,ldr,eF,eA,eX]
   | true=>
    rw[show ascD (r.m.map DC.d)=true from hasc]at eA;simp -implicitDefEqProofs [SNt1,z.l1,l2,hlt,i1,ld9,eL,i2,ldr,eF,eA,e1];refine Abs.Next.mk (j+1) ⟨⟨by omega,?_⟩,by omega⟩ ?_
    ·rw[List.take_add_one,hrx];intro r' hr';rcases List.mem_append.1 hr' with hr' | hr'
     ·exact hsm r' hr'
     ·rw[List.mem_singleton.1 hr'];exact⟨hsr,hasc⟩
    ·exact A0d (by simp -implicitDefEqProofs)
  ·rw[List.take_of_length_le (by omega)]at hsm;refine A0c C ?_;simp -implicitDefEqProofs [SNt1,l2,hlt];exact Abs.Next.mk () hsm (A0d (by simp -implicitDefEqProofs))
 rintro _ hsm
 have hs:SmU ver l C7b rs:=⟨hb,by decide,hds,fun r hr=>(hsm r hr).1,by omega⟩
 have hE:updE ver l C7b rs=0:=by
  unfold updE;rw[if_neg (fun e=>e h3),if_neg (by decide),if_neg (fun e=>e h2),if_pos (List.all_eq_true.2 fun r hr=>(hsm r hr).2)]
 have c1:=B3j (q:=q) hu hr hs;unfold updT at c1;rw[if_pos hE]at c1;obtain⟨t1,o1,k1⟩:=C1m c1
 have hLIl:(updI l rs).length=l.length:=by rw[updI,List.length_zipWith];omega
 have hLNl:(updN l rs).length=l.length:=by rw[updN,List.length_zipWith];omega
 have hI:∀{j:Nat} {c:IC} {r:RD},l[j]?=some c->rs[j]?=some r->(updI l rs)[j]?=some (C6x c r.m):=fun h1 h2=>by rw[updI,List.getElem?_zipWith,h1,h2]
 have hN:∀{j:Nat} {c:IC} {r:RD},l[j]?=some c->rs[j]?=some r->(updN l rs)[j]?=some (ntN c r):=fun h1 h2=>by rw[updN,List.getElem?_zipWith,h1,h2]
 have hui:=IsS.tree eIC (updI l rs);have hun:=IsS.tree eNt (updN l rs)
 obtain⟨u',hu'⟩:∃u',u'=A1g eIC (updI l rs):=⟨_,rfl⟩
 obtain⟨tn,htn⟩:∃tn,tn=A1g eNt (updN l rs):=⟨_,rfl⟩
 rw[<-hu']at hui;rw[<-htn]at hun;rw[<-hu',<-htn]at o1;have l3:=hui.len;have l4:=hun.len;rw[hLIl]at l3;rw[hLNl]at l4;have s1:=sB [(0,X)] 1 (.t (.v (.string ⟨#[]⟩))) (.t (.v (.slice none 0 0))) C7b hui
 obtain⟨Z,hZ⟩:∃Z,Z=bRow C7b u':=⟨_,rfl⟩
 rw[<-hZ]at s1
 have hZc:∃(ty:Nat) (cs:List T),Z = .cells ty (cs.map .t):=⟨_,[sv C7b,u'],hZ⟩
 have z2:=ldB (ver:=ver) (u:=u) (H:=[(1,Z),(0,X)]) (b:=0) (by rw[hX];rfl);have w1:=ldB (ver:=C7b) (u:=u') (H:=[(1,Z),(0,X)]) (b:=1) (by rw[hZ];rfl);have C1:Ctx Tryz.prog (G q) _:=(A0y.cons k1 .nil).ctx mixed;have o1:t1 [.ag [sv ver,u],.v (.string ⟨#[110,101,120,116]⟩),tl]=some (.tu [.ag [sv C7b,u'],tn,iv 0]):=o1;refine A0a C1 ?_;simp -implicitDefEqProofs [z.a,o1,s1];have hvn:sv C7b = .v (.string ⟨#[110,101,120,116]⟩):=rfl;refine A0a C1 ?_;simp -implicitDefEqProofs [w1.l0,w1.l1,z2.l1,l1,l3,l4,hvn];refine A0o (α:=Unit) (fun _=>⟨[],[],0,170⟩) (fun _=>True) (fun _=>rfl) ?_ ?_
 ·refine A0a C ?_;simp -implicitDefEqProofs;refine A0f ?_;refine A0k (SNt2 X Z tl tn) (fun j=>l.length-j) (fun j=>j<=l.length) 0 (fun _=>rfl) (Nat.zero_le _) ?_ rfl ?_
  ·refine A0d ?_;simp -implicitDefEqProofs [SNt2]
  rintro j hj;by_cases hlt:j<l.length
  ·obtain⟨c,hc⟩:∃c,l[j]?=some c:=⟨_,List.getElem?_eq_getElem hlt⟩
   obtain⟨r,hrx⟩:∃r,rs[j]?=some r:=⟨_,List.getElem?_eq_getElem (by omega)⟩
   obtain⟨p9,i1,ld9,ldn⟩:=B7y hu hc;obtain⟨p8,i8,ld8,_⟩:=B7y hui (hI hc hrx);obtain⟨p7,i7,ld7,ld70,ld72⟩:=nt_at hun (hN hc hrx);obtain⟨p1,i2,ldr⟩:=E7x hr hrx;obtain⟨hsr,hasc⟩:=hsm r (List.mem_of_getElem? hrx);have hcm:=List.mem_of_getElem? hc;have eR:=B3i c r.ok ⟨hsr,hds c hcm⟩;unfold repT at eR;rw[if_pos hasc]at eR
   obtain⟨y,hy⟩:∃y,y=C6x c r.m:=⟨_,rfl⟩
   have hyx:y.x=repI c.x (dvs r.m):=by rw[hy];rfl
   have hyc:repC c r.m=y.cs:=by rw[hy];rfl
   rw[hyc]at eR;rw[<-hy]at ld8
   have hye:SmE y.x:=by rw[hyx];exact D4h c r.m (hb.items c hcm).e hsr
   have eS:=D0r y y rfl hye;have cT:=E8k (q:=q) c y (ntN c r) r.ok (by rw[hyx];rfl) (fun h=>by rw[hyx];exact F1z h) (fun h h1=>by rw[hyx];exact E8l (by rw[show(dvs r.m).length=r.m.length from List.length_map _];exact h) h1) (hb.items c hcm).gold.2.2 hye.gold;obtain⟨t2,o2,k2⟩:=C1m cT;have C2:Ctx Tryz.prog (G q) _:=(A0y.cons (E7w (q:=q)) (.cons (E7a (q:=q)) (.cons k2 .nil))).ctx mixed;have hnd:(ntN c r).drop=((B1n (dvs r.m) c.x.decs:Nat):Int):=rfl;have hni:(ntN c r).id=c.x.id:=rfl;rw[hnd]at ld72;rw[hni]at ld70;generalize ntN c r=nt at *;generalize B1n (dvs r.m) c.x.decs=dn at *;obtain⟨tw,td,k,nm,f,t,tk,ks,ecs,_⟩:=A1a c.ok;obtain⟨tw',td',k',nm',f',t',tk',ks',ecs',_⟩:=A1a y.ok;rw[ecs,ecs']at eR o2;rw[ecs']at eS ld8;rw[ecs]at ld9;have s2:=sI9 y.x.id tw' y.x.state td' k' nm' f' t' tk' [(1,Z),(0,X)] 2 [.t (.v (.string ⟨#[]⟩)),.t (.v (.slice none 0 0)),.t (.v (.int .i64 0)),.t (.v (.slice none 0 0)),.t (.v (.int .i64 0)),.t (.v (.string ⟨#[]⟩)),.t (.v (.int .i64 0)),.t (.v (.int .i64 0)),.t (.v (.slice none 0 0))] rfl
   obtain⟨Y,hY⟩:∃Y,Y=iRow y.x.id tw' y.x.state td' k' nm' f' t' tk':=⟨_,rfl⟩
   rw[<-hY]at s2;have z3:=ldB (ver:=ver) (u:=u) (H:=[(2,Y),(1,Z),(0,X)]) (b:=0) (by rw[hX];rfl);have w3:=ldB (ver:=C7b) (u:=u') (H:=[(2,Y),(1,Z),(0,X)]) (b:=1) (by rw[hZ];rfl);have y3:=ldI y.x.id tw' y.x.state td' k' nm' f' t' tk' (H:=[(2,Y),(1,Z),(0,X)]) (b:=2) (by rw[hY];rfl);have e1:IntKind.i64.wrap ((j:Int)+1)=((j+1:Nat):Int):=A0h (by omega) (by omega);refine A0c C2 ?_;simp -implicitDefEqProofs [SNt2,l4,hlt,z2.l1,i1,ld9,i2,ldr,eR,s2,y3.a,w3.l1,z3.l1,i8,ld8,eS,i7,ld7,ld70,ld72,ldn,o2,e1,A3g];refine Abs.Next.mk (j+1) ⟨by omega,by omega⟩ ?_;refine B0z (by omega) (fun q hq=>?_) (by simp -implicitDefEqProofs [SNt2,under]);simp only[SNt2,List.mem_cons,List.not_mem_nil,or_false]at hq;rcases hq with rfl | rfl
   ·obtain⟨ty,cs,rfl⟩:=hZc;exact⟨rfl,by show 1<2;omega,A2f _ _⟩
   ·obtain⟨ty,cs,rfl⟩:=hXc;exact⟨rfl,by show 0<2;omega,A2f _ _⟩
  ·refine A0c C ?_;simp -implicitDefEqProofs [SNt2,l4,hlt];exact Abs.Next.mk () trivial (A2x (by omega) fun q hq=>by cases hq)
 rintro _ _;refine A0c C ?_;simp -implicitDefEqProofs [eX]
end Go.Proofs.YtmplckgbeaifkaaGreatDoor
