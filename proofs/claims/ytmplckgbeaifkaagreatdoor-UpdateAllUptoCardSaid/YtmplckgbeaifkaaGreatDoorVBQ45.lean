/-
 Auxiliary facts. No statement of the program stands here.
-/
import Derived.Test.YtmplckgbeaifkaaGreatDoorVBQ43
import Derived.Test.YtmplckgbeaifkaaGreatDoorVBQ49
import Derived.Test.YtmplckgbeaifkaaGreatDoorVBQ47
import Derived.Test.YtmplckgbeaifkaaGreatDoorVBQ48
import Derived.Test.YtmplckgbeaifkaaGreatDoorVBQ46
import Derived.Test.YtmplckgbeaifkaaGreatDoorVBQ50
import Derived.Test.YtmplckgbeaifkaaGreatDoorVBQ53
import Derived.Test.YtmplckgbeaifkaaGreatDoorVBQ54
namespace Go.Proofs.YtmplckgbeaifkaaGreatDoor
set_option linter.unusedSimpArgs false
set_option linter.unusedVariables false
open Go Go.Abs
variable {q : Gl}
def SSt (X Y:Row) (j:Nat):A0b:=⟨[(5,.t (iv (j:Int))),(3,.ptr 1 0),(2,.ptr 0 0)],[(1,Y),(0,X)],2,39⟩
section
variable {ver : ByteArray} {u u' : T} {l l' : List IC}
set_option maxHeartbeats 2000000 in
theorem C6v (h:IsS eIC u l) (h':IsS eIC u' l') (he:l.map IC.x=l'.map IC.x) (hl:l.length<=1000000) (hs:∀c∈l,SmE c.x):A0w Tryz.prog (G q) 25 [.ag [sv ver,u],.ag [sv ver,u']] (· = bv true):=by
 have hll:l'.length=l.length:=by have:=congrArg List.length he;simpa using this.symm
 have cd:A1m (.t (.ag [sv ver,u]))=some [.t (sv ver),.t u]:=rfl;have cd':A1m (.t (.ag [sv ver,u']))=some [.t (sv ver),.t u']:=rfl
 obtain⟨X,hX⟩:∃X,X=bRow ver u:=⟨_,rfl⟩
 obtain⟨Y,hY⟩:∃Y,Y=bRow ver u':=⟨_,rfl⟩
 have z:=ldB (ver:=ver) (u:=u) (H:=[(1,Y),(0,X)]) (b:=0) (by rw[hX];rfl);have y:=ldB (ver:=ver) (u:=u') (H:=[(1,Y),(0,X)]) (b:=1) (by rw[hY];rfl);have l1:=h.len;have l2:=h'.len;rw[hll]at l2;have C:Ctx Tryz.prog (G q) _:=(A0y.cons (E7a (q:=q)) .nil).ctx mixed;refine E0u.call rfl ?_;unfold C4i;refine A0a C ?_;simp -implicitDefEqProofs [cd,cd'];rw[show Row.cells 39 [.t (sv ver),.t u]=X from hX.symm,show Row.cells 39 [.t (sv ver),.t u']=Y from hY.symm];refine A0a C ?_;simp -implicitDefEqProofs [z.l0,y.l0,z.l1,y.l1,l1,l2,A3g];refine A0o (α:=Unit) (fun _=>⟨[],[],0,39⟩) (fun _=>True) (fun _=>rfl) ?_ ?_
 ·refine A0a C ?_;simp -implicitDefEqProofs;refine A0f ?_;refine A0k (SSt X Y) (fun j=>l.length-j) (fun j=>j<=l.length) 0 (fun _=>rfl) (Nat.zero_le _) ?_ rfl ?_
  ·refine B0z (by omega) (fun r hr=>?_) (by simp -implicitDefEqProofs [SSt,under]);simp only[List.mem_cons,List.not_mem_nil,or_false]at hr;rcases hr with rfl | rfl
   ·exact⟨rfl,by show 1<2;omega,by rw[hY];exact A2f _ [sv ver,u']⟩
   ·exact⟨rfl,by show 0<2;omega,by rw[hX];exact A2f _ [sv ver,u]⟩
  rintro j hj;by_cases hlt:j<l.length
  ·obtain⟨c,hx⟩:∃c,l[j]?=some c:=⟨_,List.getElem?_eq_getElem hlt⟩
   obtain⟨c',hx'⟩:∃c,l'[j]?=some c:=⟨_,List.getElem?_eq_getElem (by omega)⟩
   obtain⟨p1,i1,g1,_⟩:=B7y h hx;obtain⟨p2,i2,g2,_⟩:=B7y h' hx'
   have hcc:c.x=c'.x:=by
    have:=congrArg (fun m=>m[j]?) he;simpa[List.getElem?_map,hx,hx']using this
   have eS:=D0r c c' hcc (hs c (List.mem_of_getElem? hx));have w1:IntKind.i64.wrap ((j:Int)+1)=((j+1:Nat):Int):=A0h (by omega) (by omega);refine A0c C ?_;simp -implicitDefEqProofs [SSt,z.l1,y.l1,l1,hlt,i1,i2,g1,g2,eS,w1];refine Abs.Next.mk (j+1) ⟨by omega,by omega⟩ ?_;refine B0z (by omega) (fun r hr=>?_) (by simp -implicitDefEqProofs [under]);simp only[List.mem_cons,List.not_mem_nil,or_false]at hr;rcases hr with rfl | rfl
   ·exact⟨rfl,by show 1<2;omega,by rw[hY];exact A2f _ [sv ver,u']⟩
   ·exact⟨rfl,by show 0<2;omega,by rw[hX];exact A2f _ [sv ver,u]⟩
  ·refine A0c C ?_;simp -implicitDefEqProofs [SSt,z.l1,l1,hlt];exact Abs.Next.mk () trivial (A2x (by omega) fun q hq=>by cases hq)
 rintro _ _;refine A0c C ?_;simp -implicitDefEqProofs
end
theorem eqs_n (n:Nt):A1n [.s,.i,.i] (eNt.enc n) (eNt.enc n)=some true:=by simp[A1n,eNt]
def SSn (t t':T) (j:Nat):A0b:=⟨[(5,.t (iv (j:Int))),(1,.t t'),(0,.t t)],[],0,26⟩
set_option maxHeartbeats 1000000 in
theorem E0w {t t':T} {l:List Nt} (h:IsS eNt t l) (h':IsS eNt t' l) (hl:l.length<=1000000):A0w Tryz.prog (G q) 26 [t,t'] (· = bv true):=by
 have e1:=h.len;have e2:=h'.len;refine C1k.call rfl ?_;unfold B1m;refine A0a A0x ?_;simp -implicitDefEqProofs;refine A0a A0x ?_;simp -implicitDefEqProofs [e1,e2];refine A0o (α:=Unit) (fun _=>⟨[],[],0,26⟩) (fun _=>True) (fun _=>rfl) ?_ ?_
 ·refine A0a A0x ?_;simp -implicitDefEqProofs;refine A0f ?_;refine A0k (SSn t t') (fun j=>l.length-j) (fun j=>j<=l.length) 0 (fun _=>rfl) (Nat.zero_le _) ?_ rfl ?_
  ·refine A0d ?_;simp -implicitDefEqProofs [SSn]
  rintro j hj;by_cases hlt:j<l.length
  ·obtain⟨x,hx⟩:∃x,l[j]?=some x:=⟨_,List.getElem?_eq_getElem hlt⟩
   have i1:A1o 3 (.t t) (.t (iv (j:Int)))=_:=h.iaddr hx .i64;have i2:A1o 3 (.t t') (.t (iv (j:Int)))=_:=h'.iaddr hx .i64
   have ldx:∀(H:Heap) (r:List T),A0g true 3 H (.t (.pt (eNt.enc x++r)))=some (.t (.ag (eNt.enc x))):=fun _ r=>by
    simp only[A0g,if_true];rw[if_pos (by simp[eNt])];rfl
   have eq:=eqs_n x;have w1:IntKind.i64.wrap ((j:Int)+1)=((j+1:Nat):Int):=A0h (by omega) (by omega);refine A0c A0x ?_;simp -implicitDefEqProofs [SSn,e1,hlt,i1,i2,ldx,eq,w1];refine Abs.Next.mk (j+1) ⟨by omega,by omega⟩ ?_;exact A0d (by simp -implicitDefEqProofs)
  ·refine A0c A0x ?_;simp -implicitDefEqProofs [SSn,e1,hlt];exact Abs.Next.mk () trivial (A0d fun q hq=>by cases hq)
 rintro _ _;refine A0c A0x ?_;simp -implicitDefEqProofs
set_option maxHeartbeats 2000000 in
theorem E0x (a b:IC) {tl:T} {m:List DC} (hm:IsS eDC tl m) (ha:nodD a.x.gold<=1000000) (hb:nodD b.x.gold<=1000000):A0w Tryz.prog (G q) 61 [.ag a.cs,.ag b.cs,tl] (· = iv (B0a a.x b.x (dvs m))):=by
 obtain⟨R,hR⟩:∃R,R=B0a a.x b.x (dvs m):=⟨_,rfl⟩
 rw[<-hR];unfold B0a at hR;obtain⟨tw,td,k,nm,f,t,tk,ks,ecs,hg,hk,hw,hd,hgD⟩:=A1a a.ok;obtain⟨tw',td',k',nm',f',t',tk',ks',ecs',hg',hk',hw',hd',hgD'⟩:=A1a b.ok;rw[ecs,ecs'];have lm:=hm.len;have eC:=A9r hgD hgD' ha hb;rw[show(dvs m).length=m.length from List.length_map _]at hR;generalize cmpD a.x.gold b.x.gold=cz at *;generalize a.x.id=id at *;generalize b.x.id=id' at *;generalize a.x.state=st at *;generalize b.x.state=st' at *;generalize m.length=ml at *;have cd:=A3c id tw st td k nm f t tk;have cd':=A3c id' tw' st' td' k' nm' f' t' tk'
 obtain⟨X,hX⟩:∃X,X=iRow id tw st td k nm f t tk:=⟨_,rfl⟩
 obtain⟨Y,hY⟩:∃Y,Y=iRow id' tw' st' td' k' nm' f' t' tk':=⟨_,rfl⟩
 have z:=ldI id tw st td k nm f t tk (H:=[(1,Y),(0,X)]) (b:=0) (by rw[hX];rfl);have y:=ldI id' tw' st' td' k' nm' f' t' tk' (H:=[(1,Y),(0,X)]) (b:=1) (by rw[hY];rfl);have C:Ctx Tryz.prog (G q) _:=(A0y.cons (D2w (q:=q)) .nil).ctx mixed;refine E0v.call rfl ?_;unfold C4j;refine A0a C ?_;simp -implicitDefEqProofs [cd,cd'];rw[show Row.cells 28 [.t (sv id),.t tw,.t (iv st),.t td,.t (iv k),.t (sv nm),.t (iv f),.t (iv t),.t tk]=X from hX.symm];rw[show Row.cells 28 [.t (sv id'),.t tw',.t (iv st'),.t td',.t (iv k'),.t (sv nm'),.t (iv f'),.t (iv t'),.t tk']=Y from hY.symm];refine A0c C ?_;by_cases h1:st=1
 ·subst h1;rw[if_neg (by simp)]at hR;by_cases h2:ml=0
  ·subst h2;rw[if_pos rfl]at hR;have lm:A7k (.t tl)=some (.t (.v (.int .i64 0))):=lm;simp -implicitDefEqProofs [z.l2,lm,hR]
  ·rw[if_neg h2]at hR
   have b2:((ml:Int)==0)=false:=by simpa using (by omega:¬(ml:Int)=0)
   by_cases h3:st'=1
   ·subst h3;rw[if_neg (by simp)]at hR;by_cases h4:cz=0
    ·subst h4;rw[if_pos rfl]at hR;simp -implicitDefEqProofs [z.l2,lm,b2,y.l2,z.g,y.g,eC,hR]
    ·rw[if_neg h4]at hR
     have b4:(cz==0)=false:=by simpa using h4
     simp -implicitDefEqProofs [z.l2,lm,b2,y.l2,z.g,y.g,eC,b4,hR]
   ·rw[if_pos h3]at hR
    have b3:(st' != 1)=true:=by simpa using h3
    simp -implicitDefEqProofs [z.l2,lm,b2,y.l2,b3,hR]
 ·rw[if_pos h1]at hR
  have b1:(st != 1)=true:=by simpa using h1
  simp -implicitDefEqProofs [z.l2,b1,hR]
theorem hRKnd:GOK Tryz.prog (G q) 61 gKnd:=E7u fun a b _ _ hm ha hb=>E0x a b hm ha hb
def SUr (version:ByteArray) (tl:T) (X:Row) (a:Nat×List IC×List Nt):A0b:=
 ⟨[(12,.t (iv (a.1:Int))),(11,rowP eNt 4 a.2.2),(10,.ptr 2 0),(6,.ptr 1 0),(3,.ptr 0 0),(2,.t tl)],HUp version X a.2.1 a.2.2,5,86⟩
set_option maxHeartbeats 8000000 in
theorem D0t {ver version:ByteArray} {u tl:T} {l:List IC} {rs:List RD} (hu:IsS eIC u l) (hr:IsS eRD tl rs) (hs:SmU ver l version rs) :
  A0w Tryz.prog (G q) 24 [.ag [sv ver,u],sv version,tl] (· = updT ver u l version rs):=by
 have cd:A1m (.t (.ag [sv ver,u]))=some [.t (sv ver),.t u]:=rfl;have eC:=C6y hu hs.b;have eN:=B2j hs.v;have l1:=hu.len;have l2:=hr.len;have hll:=hs.b.len;have hrl:=hs.len
 obtain⟨P,hP⟩:∃P,P=updT ver u l version rs:=⟨_,rfl⟩
 rw[<-hP];unfold updT at hP
 have hE:updE ver l version rs=if chkT ⟨ver,l.map IC.x⟩≠0 then chkT ⟨ver,l.map IC.x⟩else if A1e false version=false then 1 else if rs.length≠l.length then 17 else if rs.all (fun r=>ascD (dvs r.m))then 0 else 3:=rfl
 have C:Ctx Tryz.prog (G q) _:=(A0y.cons (F5z (q:=q)) (.cons (hRNm (q:=q)) (.cons (F8z (q:=q)) (.cons (hRKnd (q:=q)) .nil)))).ctx mixed
 obtain⟨X,hX⟩:∃X,X=bRow ver u:=⟨_,rfl⟩
 have z0:∀R:Heap,LdB ver u ((0,X)::R) 0:=fun R=>ldB (by rw[hX];rfl);have z1:∀(Y:Row) (R:Heap),LdB ver u ((1,Y)::(0,X)::R) 0:=fun Y R=>ldB (by rw[hX];rfl)
 have hpos:∀{c:Int},updE ver l version rs=c->c≠0->P = .tu [.ag [sv ver,u],nilS,iv c]:=fun {c} h hc=>by
  rw[h,if_neg hc]at hP;exact hP
 refine D0s.call rfl ?_;unfold B7m;refine A0a C ?_;simp -implicitDefEqProofs [cd];rw[show Row.cells 39 [.t (sv ver),.t u]=X from hX.symm];have st1:=sB [(0,X)] 1 (.t (.v (.string ⟨#[]⟩))) (.t (.v (.slice none 0 0))) ver hu;have ld1:=ldB (ver:=ver) (u:=u) (H:=[(1,bRow ver u),(0,X)]) (b:=1) rfl;by_cases h1:chkT ⟨ver,l.map IC.x⟩=0
 rotate_left
 ·rw[if_pos h1]at hE;have hP:=hpos hE h1
  have hb:(chkT ⟨ver,l.map IC.x⟩ != 0)=true:=by simpa using h1
  refine A0a C ?_;simp -implicitDefEqProofs [(z1 _ []).a,eC,hb,st1,ld1.a,hP]
 rw[if_neg (fun e=>e h1)]at hE;rw[h1]at eC;refine A0a C ?_;simp -implicitDefEqProofs [(z1 _ []).a,eC]
 cases h2:A1e false version with
 | false=>
  rw[if_pos h2]at hE;have hP:=hpos hE (by decide);rw[h2]at eN;refine A0a C ?_;simp -implicitDefEqProofs [(z1 _ []).a,eN,st1,ld1.a,hP]
 | true=>
 rw[if_neg (by rw[h2];decide)]at hE;rw[h2]at eN;refine A0a C ?_;simp -implicitDefEqProofs [eN];by_cases h3:rs.length=l.length
 rotate_left
 ·rw[if_pos h3]at hE;have hP:=hpos hE (by decide)
  have hb:((rs.length:Int) !=(l.length:Int))=true:=by simpa using (by omega:¬(rs.length:Int)=(l.length:Int))
  refine A0a C ?_;simp -implicitDefEqProofs [(z1 _ []).a,(z1 _ []).l1,l1,l2,hb,st1,ld1.a,hP]
 rw[if_neg (fun e=>e h3)]at hE
 have hb:((rs.length:Int) !=(l.length:Int))=false:=by rw[h3];simp
 refine A0a C ?_;simp -implicitDefEqProofs [(z1 _ []).l1,l1,l2,hb];have st2:A0t 2 [(2,.cells 39 [.t (.v (.string ⟨#[]⟩)),.t (.v (.slice none 0 0))]),(1,bRow ⟨#[]⟩ nilS),(0,X)] (.ptr 2 0) (.t (.ag [sv version,nilS]))=some [(2,bRow version nilS),(1,bRow ⟨#[]⟩ nilS),(0,X)]:=rfl;rw[show Row.cells 39 [.t (.v (.string ⟨#[]⟩)),.t (.v (.slice none 0 0))]=bRow ⟨#[]⟩ nilS from rfl];refine A0a C ?_;simp -implicitDefEqProofs [bd2,-evalK_build];have st2:A0t 2 ((2,Row.cells 39 [.t (.v (.string ⟨#[]⟩)),.t (.v (.slice none 0 0))])::[(1,bRow ⟨#[]⟩ nilS),(0,X)]) (.ptr 2 0) (.t (.ag [sv version,nilS]))=some [(2,bRow version nilS),(1,bRow ⟨#[]⟩ nilS),(0,X)]:=rfl;simp -implicitDefEqProofs [st2];refine A0a C ?_;simp -implicitDefEqProofs
 obtain⟨LI,hLI⟩:∃LI,LI=updI l rs:=⟨_,rfl⟩
 obtain⟨LN,hLN⟩:∃LN,LN=updN l rs:=⟨_,rfl⟩
 have hLIl:LI.length=l.length:=by rw[hLI,updI,List.length_zipWith];omega
 have hLNl:LN.length=l.length:=by rw[hLN,updN,List.length_zipWith];omega
 refine A0o (α:=Unit) (fun _=>⟨[(11,rowP eNt 4 LN),(10,.ptr 2 0),(6,.ptr 1 0)],HUp version X LI LN,5,86⟩) (fun _=>P = .tu [.ag [sv version,A1g eIC LI],A1g eNt LN,iv 0]) (fun _=>rfl) ?_ ?_
 ·refine A0a C ?_;have z2:LdB ver u [(2,bRow version nilS),(1,bRow ⟨#[]⟩ nilS),(0,X)] 0:=ldB (by rw[hX];rfl);simp -implicitDefEqProofs;refine A0f ?_;refine A0k (SUr version tl X) (fun a=>l.length-a.1) (fun a=>a.1<=l.length/\a.2.1=LI.take a.1/\a.2.2=LN.take a.1/\ascR rs a.1=true) (0,[],[]) (fun _=>rfl) ⟨Nat.zero_le _,rfl,rfl,rfl⟩ ?_ rfl ?_
  ·refine B0z (by omega) (fun r hr=>?_) (by simp -implicitDefEqProofs [SUr,under];exact⟨rfl,rfl⟩);simp only[HUp,rowH,List.append_nil,List.mem_cons,List.not_mem_nil,or_false]at hr;rcases hr with rfl | rfl | rfl
   ·exact⟨rfl,by show 0<5;omega,by rw[hX];exact A2f _ [sv ver,u]⟩
   ·exact⟨rfl,by show 1<5;omega,rfl⟩
   ·exact⟨rfl,by show 2<5;omega,rfl⟩
  rintro⟨i,li,ln⟩ ⟨hi,hli,hln,hall⟩;simp only at hi hli hln hall;by_cases hlt:i<l.length
  ·obtain⟨c,hc⟩:∃c,l[i]?=some c:=⟨_,List.getElem?_eq_getElem hlt⟩
   obtain⟨r,hrx⟩:∃r,rs[i]?=some r:=⟨_,List.getElem?_eq_getElem (by omega)⟩
   obtain⟨p9,i1,ld9,_⟩:=B7y hu hc;obtain⟨p1,i2,ldr⟩:=E7x hr hrx;have hsc:=hs.b.items c (List.mem_of_getElem? hc);have hsr:=hs.rd r (List.mem_of_getElem? hrx);have eR:=B3i c r.ok ⟨hsr,hs.decs c (List.mem_of_getElem? hc)⟩;unfold repT at eR;obtain⟨tw,td,k,nm,f,t,tk,ks,ecs,_⟩:=A1a c.ok;have e1:IntKind.i64.wrap ((i:Int)+1)=((i+1:Nat):Int):=A0h (by omega) (by omega);have k0:Abs.look (HUp version X li ln) 0=some X:=rfl;have k1:Abs.look (HUp version X li ln) 1=some (bRow ⟨#[]⟩ nilS):=rfl;have k2:Abs.look (HUp version X li ln) 2=some (oRow version (rowP eIC 3 li)):=rfl
   have r3:A0p eIC 28 (HUp version X li ln) 3 li:=by
    refine(A0p.head eIC 28 (rowH eNt 49 4 ln) 3 li).imp id fun h=>?_;exact h
   have r4:A0p eNt 49 (HUp version X li ln) 4 ln:=by
    refine(A0p.head' eNt 49 4 ln).imp id fun h=>?_;show Abs.look (rowH eIC 28 3 li++rowH eNt 49 4 ln) 4=_;rw[B6i (by omega)];exact h
   unfold SUr
   obtain⟨H0,hH0⟩:∃H0,H0=HUp version X li ln:=⟨_,rfl⟩
   simp only[<-hH0]at k0 k1 k2 r3 r4 ⊢;have lb0:=ldB (ver:=ver) (u:=u) (H:=H0) (b:=0) (by rw[<-hX];exact k0);rw[ecs]at ld9 eR;refine A3m ?_;refine A0c C ?_;simp -implicitDefEqProofs [lb0.l1,l1,hlt];refine⟨rfl,?_⟩;refine A3m ?_;refine A0f ?_
   cases hasc:ascD (dvs r.m)with
   | false=>
    rw[if_neg (by simp[hasc])]at eR;rw[E8b hrx hasc]at hE;have hP:=hpos hE (by decide);have s5:=sI9 c.x.id tw c.x.state td k nm f t tk H0 5 [.t (.v (.string ⟨#[]⟩)),.t (.v (.slice none 0 0)),.t (.v (.int .i64 0)),.t (.v (.slice none 0 0)),.t (.v (.int .i64 0)),.t (.v (.string ⟨#[]⟩)),.t (.v (.int .i64 0)),.t (.v (.int .i64 0)),.t (.v (.slice none 0 0))] rfl
    obtain⟨xr,hxr⟩:∃xr,xr=iRow c.x.id tw c.x.state td k nm f t tk:=⟨_,rfl⟩
    rw[<-hxr]at s5;refine A0a C ?_;simp -implicitDefEqProofs [lb0.l1,i1,ld9,i2,ldr,eR,s5];have sb:=sBu (H:=(5,xr)::H0) (b:=1) (v:=ver) (u:=u) k1 hu;have lb:=ldB (ver:=ver) (u:=u) (H:=(5,xr)::upd H0 1 (bRow ver u)) (b:=1) (A2m (x:=bRow ⟨#[]⟩ nilS) k1);have lx:=ldB (ver:=ver) (u:=u) (H:=(5,xr)::H0) (b:=0) (by rw[<-hX];exact k0);refine A0a C ?_;simp -implicitDefEqProofs [lx.a,sb,lb.a,hP,B0k]
   | true=>
    rw[if_pos hasc]at eR
    obtain⟨y,hy⟩:∃y,y=C6x c r.m:=⟨_,rfl⟩
    have hyc:repC c r.m=y.cs:=by rw[hy];rfl
    have hyx:y.x=repI c.x (dvs r.m):=by rw[hy];rfl
    obtain⟨tw',td',k',nm',f',t',tk',ks',ecs',hyg,_⟩:=A1a y.ok;rw[hyc,ecs']at eR
    have hid:y.x.id=c.x.id:=by rw[hyx,A9l]
    have s5:=sI9 y.x.id tw' y.x.state td' k' nm' f' t' tk' H0 5 [.t (.v (.string ⟨#[]⟩)),.t (.v (.slice none 0 0)),.t (.v (.int .i64 0)),.t (.v (.slice none 0 0)),.t (.v (.int .i64 0)),.t (.v (.string ⟨#[]⟩)),.t (.v (.int .i64 0)),.t (.v (.int .i64 0)),.t (.v (.slice none 0 0))] rfl
    obtain⟨yr,hyr⟩:∃yr,yr=iRow y.x.id tw' y.x.state td' k' nm' f' t' tk':=⟨_,rfl⟩
    rw[<-hyr]at s5;have w5:=ldI y.x.id tw' y.x.state td' k' nm' f' t' tk' (H:=(5,yr)::H0) (b:=5) (by rw[hyr];rfl);have lO:=ldO (H:=(5,yr)::H0) (b:=2) (v:=version) (p:=rowP eIC 3 li) k2;have bs:=bsI y.x.id tw' y.x.state td' k' nm' f' t' tk' 6;rw[<-hyr]at bs
    have hlil:li.length=i:=by rw[hli,List.length_take];omega
    have hlnl:ln.length=i:=by rw[hln,List.length_take];omega
    have hyr':yr = .cells 28 ((eIC.enc y).map .t):=by rw[hyr];show _=Row.cells _ (y.cs.map .t);rw[ecs'];rfl
    have ap:=B5q (e:=eIC) (ty:=28) (by':=136) (nx:=7) (H:=(6,yr)::(5,yr)::H0) (b:=3) (l:=li) (m:=[y]) ((r3.cons (by omega)).cons (by omega)) (A9d (e:=eIC) (ty:=28) (b:=6) y (by rw[hyr'];rfl)) (by simp;omega) (by simp;omega)
    obtain⟨H7,hH7⟩:∃H7,H7=appH eIC 28 ((6,yr)::(5,yr)::H0) 7 3 li [y]:=⟨_,rfl⟩
    have hn7:appN 7 li [y]=8:=by simp[appN]
    rw[<-hH7,hn7]at ap;have ap:appM 28 9 136 ((6,yr)::(5,yr)::H0) 7 (rowP eIC 3 li) (.row 6 0 1 9)=some (rowP eIC 7 (li++[y]),H7,8):=ap
    have g7:∀b,b≠7->b≠3->Abs.look H7 b=Abs.look ((6,yr)::(5,yr)::H0) b:=fun b h1 h2=>by rw[hH7,A8h h1 h2]
    have r8:A0p eIC 28 H7 7 (li++[y]):=by rw[hH7];exact A0p.app
    have r4':A0p eNt 49 H7 4 ln:=r4.imp id fun h=>by rw[g7 4 (by omega) (by omega)];exact h
    have k2':Abs.look H7 2=some (oRow version (rowP eIC 3 li)):=by rw[g7 2 (by omega) (by omega)];exact k2
    have hcell:A1m (rowP eIC 7 (li++[y]))=some [rowP eIC 7 (li++[y])]:=by
     cases hh:li++[y]with
     | nil=>rfl
     | cons _ _=>rfl
    have so:=sO k2' hcell
    obtain⟨H8,hH8⟩:∃H8,H8=upd H7 2 (oRow version (rowP eIC 7 (li++[y]))):=⟨_,rfl⟩
    rw[<-hH8]at so
    have g8:∀b,b≠2->Abs.look H8 b=Abs.look H7 b:=fun b h=>by rw[hH8,A1h,if_neg h]
    have k2'':Abs.look H8 2=some (oRow version (rowP eIC 7 (li++[y]))):=by rw[hH8];exact A2m k2'
    have w5':=ldI y.x.id tw' y.x.state td' k' nm' f' t' tk' (H:=H8) (b:=5) (by rw[g8 5 (by omega),g7 5 (by omega) (by omega),hyr];rfl);have lb8:=ldB (ver:=ver) (u:=u) (H:=H8) (b:=0) (by rw[g8 0 (by omega),g7 0 (by omega) (by omega),<-hX];exact k0)
    have hyn:nodD y.x.gold<=1000000:=by
     rw[hyx,A9l];show nodD (A9z c r.m).d<=_;unfold A9z;split
     ·cases ho:oneC r.m (keep (dvs r.m) [] c.x.decs)with
      | none=>show nodD A2c<=_;decide
      | some g=>
       have h1:=B6h r.m (keep (dvs r.m) [] c.x.decs);rw[ho]at h1;have:=hsr.kid (B1u h1).1;show nodD g.d<=_;omega
     ·show nodD A2c<=_;decide
    have eK:=E7v c y r.ok hsc.gold.2.2 hyn;rw[ecs,ecs',show B0a c.x y.x (dvs r.m)=B0a c.x (repI c.x (dvs r.m)) (dvs r.m)by rw[hyx]]at eK;have bn:=fun Φ H nx=>bdN Φ H nx (ntN c r)
    obtain⟨nt,hnt⟩:∃nt,nt=ntN c r:=⟨_,rfl⟩
    have bn:∀(Φ:A0v) (H:Heap) (nx:Nat),A0e Φ H nx (.build [(0,1),(1,1),(2,1)] [.string ⟨#[]⟩,.int .i64 0,.int .i64 0] [0,1,2]) [.t (sv y.x.id),.t (iv (B0a c.x (repI c.x (dvs r.m)) (dvs r.m))),.t (iv (B1n (dvs r.m) c.x.decs:Nat))]=some (.t (.ag (eNt.enc nt)),H,nx):=fun Φ H nx=>by rw[hnt,hid];exact bn Φ H nx
    have ts:=tsN nt;have ap2:=B5q (e:=eNt) (ty:=49) (by':=32) (nx:=8) (H:=H8) (b:=4) (l:=ln) (m:=[nt]) (r4'.imp id fun h=>by rw[g8 4 (by omega)];exact h) (A7m (t:=.sl 1 (eNt.enc nt)) (.inr rfl)) (by simp;omega) (by simp;omega)
    obtain⟨H9,hH9⟩:∃H9,H9=appH eNt 49 H8 8 4 ln [nt]:=⟨_,rfl⟩
    have hn9:appN 8 ln [nt]=9:=by simp[appN]
    rw[<-hH9,hn9]at ap2;have ap2:appM 49 3 32 H8 8 (rowP eNt 4 ln) (.t (.sl 1 (eNt.enc nt)))=some (rowP eNt 8 (ln++[nt]),H9,9):=ap2
    have g9:∀b,b≠8->b≠4->Abs.look H9 b=Abs.look H8 b:=fun b h1 h2=>by rw[hH9,A8h h1 h2]
    have r8':A0p eIC 28 H9 7 (li++[y]):=r8.imp id fun h=>by rw[g9 7 (by omega) (by omega),g8 7 (by omega)];exact h
    have r9:A0p eNt 49 H9 8 (ln++[nt]):=by rw[hH9];exact A0p.app
    have q0:Abs.look H9 0=some X:=by rw[g9 0 (by omega) (by omega),g8 0 (by omega),g7 0 (by omega) (by omega)];exact k0
    have q1:Abs.look H9 1=some (bRow ⟨#[]⟩ nilS):=by rw[g9 1 (by omega) (by omega),g8 1 (by omega),g7 1 (by omega) (by omega)];exact k1
    have q2:Abs.look H9 2=some (oRow version (rowP eIC 7 (li++[y]))):=by rw[g9 2 (by omega) (by omega)];exact k2''
    refine A0a C ?_;simp -implicitDefEqProofs [lb0.l1,i1,ld9,i2,ldr,eR,s5];refine A0a C ?_;simp -implicitDefEqProofs;refine A0a C ?_;simp -implicitDefEqProofs [lO,w5.a,bs,ap,so];refine A0c C ?_;simp -implicitDefEqProofs [w5'.l0,w5'.a,lb8.l1,i1,ld9,i2,ldr,eK,bn,ts,ap2,-evalK_build];refine⟨rfl,?_⟩;refine A0c C ?_;simp -implicitDefEqProofs [e1]
    have hzi:li++[y]=LI.take (i+1):=by rw[hli,hLI,hy];exact(B8u _ hc hrx).symm
    have hzn:ln++[nt]=LN.take (i+1):=by rw[hln,hLN,hnt];exact(B8u _ hc hrx).symm
    refine Abs.Next.mk (i+1,li++[y],ln++[nt]) ⟨⟨by show i+1<=_;omega,hzi,hzn,?_⟩,by show l.length-(i+1)<l.length-i;omega⟩ ?_
    ·show ascR rs (i+1)=true;unfold ascR at hall ⊢;rw[List.take_add_one,hrx,List.all_append,hall];simp[hasc]
    ·refine D0w (k:=7) (k':=8) r8' r9 (by omega) (by omega) (by omega) (by omega) (by omega) (by omega) (fun z hz=>?_) (by simp -implicitDefEqProofs [A2b,A1j,ren,under]);simp only[List.mem_cons,List.not_mem_nil,or_false]at hz;rcases hz with rfl | rfl | rfl
     ·exact⟨by rw[q0,hX];rfl,by show 0<5;omega,by show 0≠3;omega,by show 0≠4;omega,by show 0≠7;omega,by show 0≠8;omega,by rw[hX];exact A2f _ [sv ver,u]⟩
     ·exact⟨by rw[q1];rfl,by show 1<5;omega,by show 1≠3;omega,by show 1≠4;omega,by show 1≠7;omega,by show 1≠8;omega,rfl⟩
     ·refine⟨?_,by show 2<5;omega,by show 2≠3;omega,by show 2≠4;omega,by show 2≠7;omega,by show 2≠8;omega,?_⟩
      ·rw[q2];show some (oRow version _)=some (Row.cells _ [.t (sv version),ren _ (rowP eIC 3 (li++[y]))]);rw[A2b];rfl
      ·show(under 5 (.t (sv version))&&(under 5 (rowP eIC 3 (li++[y]))&&true))=true;rw[A1j _ _ _ _ (by omega)];rfl
  ·have hil:i=l.length:=by omega
   subst hil;unfold ascR at hall;rw[List.take_of_length_le (by omega)]at hli hln hall;subst hli;subst hln;rw[if_pos hall]at hE;rw[if_pos hE,<-hLI,<-hLN]at hP;unfold SUr;have lbE:=ldB (ver:=ver) (u:=u) (H:=HUp version X li ln) (b:=0) (by rw[hX];rfl);refine A0c C ?_;simp -implicitDefEqProofs [lbE.l1,l1,hlt];exact Abs.Next.mk () hP (A0d (by simp -implicitDefEqProofs))
 ·rintro _ hP;refine MC.sub (E8c _ version X LI LN 86) rfl ?_;have ltr:=ldB (ver:=version) (u:=A1g eIC LI) (H:=[(2,bRow version (A1g eIC LI)),(1,bRow ⟨#[]⟩ nilS)]) (b:=2) rfl;have sb:=sBu (H:=[(2,bRow version (A1g eIC LI)),(1,bRow ⟨#[]⟩ nilS)]) (b:=1) (v:=version) (u:=A1g eIC LI) rfl (IsS.tree eIC LI);have lb:=ldB (ver:=version) (u:=A1g eIC LI) (H:=[(2,bRow version (A1g eIC LI)),(1,bRow version (A1g eIC LI))]) (b:=1) rfl;refine A0c C ?_;simp -implicitDefEqProofs [ltr.a,sb,lb.a,hP]
theorem E7d {ver version:ByteArray} {u:T} {l:List IC} {rs:List RD} (hu:IsS eIC u l) (hs:SmU ver l version rs) :
  ∃(v':ByteArray) (u':T) (l':List IC) (nt:T) (ns:List Nt) (e:Int),updT ver u l version rs = .tu [.ag [sv v',u'],nt,iv e]/\IsS eIC u' l'/\IsS eNt nt ns/\l'.length<=1000000/\ns.length<=1000000/\∀c∈l',SmE c.x:=by
 unfold updT;by_cases h:updE ver l version rs=0
 ·rw[if_pos h];refine⟨version,_,updI l rs,_,updN l rs,0,rfl,IsS.tree _ _,IsS.tree _ _,?_,?_,fun c hc=>?_⟩
  ·have:=hs.b.len;rw[updI,List.length_zipWith];omega
  ·have:=hs.b.len;rw[updN,List.length_zipWith];omega
  ·obtain⟨i,hi⟩:=List.getElem?_of_mem hc;rw[updI,List.getElem?_zipWith]at hi
   cases h1:l[i]? with
   | none=>rw[h1]at hi;simp at hi
   | some c0=>cases h2:rs[i]? with
    | none=>rw[h1,h2]at hi;simp at hi
    | some r0=>
     rw[h1,h2]at hi;injection hi with hi;rw[<-hi];exact D4h c0 r0.m (hs.b.items c0 (List.mem_of_getElem? h1)).e (hs.rd r0 (List.mem_of_getElem? h2))
 ·rw[if_neg h];exact⟨ver,u,l,nilS,[],_,rfl,hu,.inl ⟨rfl,rfl⟩,hs.b.len,by simp,fun c hc=>(hs.b.items c hc).e⟩
def SA1 (X:Row) (tl:T) (v:ByteArray) (j:Nat):A0b:=⟨[(7,.t (iv (j:Int))),(3,.ptr 0 0),(2,.t tl),(1,.t (sv v))],[(0,X)],1,100⟩
def SA2 (X:Row) (tl:T) (v:ByteArray) (j:Nat):A0b:=⟨[(8,.t (iv (j:Int))),(3,.ptr 0 0),(2,.t tl),(1,.t (sv v))],[(0,X)],1,100⟩
set_option maxHeartbeats 8000000 in
theorem D3x {ver version:ByteArray} {u tl:T} {l:List IC} {rs:List RD} (hu:IsS eIC u l) (hr:IsS eRD tl rs) (hb:SmB ver l) (hv:version.size<=lim) (hds:∀c∈l,c.x.decs.length<=200000) :
  A0w Tryz.prog (G q) 4 [.ag [sv ver,u],sv version,tl] (· = bv true):=by
 have cd:A1m (.t (.ag [sv ver,u]))=some [.t (sv ver),.t u]:=rfl;have l1:=hu.len;have l2:=hr.len;have hll:=hb.len;have eX:gEx []=some (bv true):=rfl;have C:Ctx Tryz.prog (G q) _:=(A0y.cons (E1e (q:=q)) (.cons (hLiI (q:=q)) (.cons (hFew (q:=q)) .nil))).ctx mixed
 obtain⟨X,hX⟩:∃X,X=bRow ver u:=⟨_,rfl⟩
 have z:=ldB (ver:=ver) (u:=u) (H:=[(0,X)]) (b:=0) (by rw[hX];rfl);refine C1j.call rfl ?_;unfold B1l;refine A0a C ?_;simp -implicitDefEqProofs [cd];rw[show Row.cells 39 [.t (sv ver),.t u]=X from hX.symm];by_cases h1:4<l.length
 ·have b1:decide ((4:Int)<(l.length:Int))=true:=by simpa using (by omega:(4:Int)<(l.length:Int))
  refine A0a C ?_;simp -implicitDefEqProofs [z.l1,l1,b1,eX]
 have b1:decide ((4:Int)<(l.length:Int))=false:=by simpa using (by omega:(l.length:Int)<=4)
 by_cases h2:5<rs.length
 ·have b2:decide ((5:Int)<(rs.length:Int))=true:=by simpa using (by omega:(5:Int)<(rs.length:Int))
  refine A0a C ?_;simp -implicitDefEqProofs [z.l1,l1,l2,b1,b2,eX]
 have b2:decide ((5:Int)<(rs.length:Int))=false:=by simpa using (by omega:(rs.length:Int)<=5)
 by_cases h3:100<version.size
 ·have b3:decide ((100:Int)<(version.size:Int))=true:=by simpa using (by omega:(100:Int)<(version.size:Int))
  refine A0a C ?_;simp -implicitDefEqProofs [z.l1,l1,l2,b1,b2,b3,eX]
 have b3:decide ((100:Int)<(version.size:Int))=false:=by simpa using (by omega:(version.size:Int)<=100)
 refine A0a C ?_;simp -implicitDefEqProofs [z.l1,l1,l2,b1,b2,b3];refine A0o (α:=Unit) (fun _=>⟨[(3,.ptr 0 0),(2,.t tl),(1,.t (sv version))],[(0,X)],1,100⟩) (fun _=>True) (fun _=>rfl) ?_ ?_
 ·refine A0a C ?_;simp -implicitDefEqProofs;refine A0f ?_;refine A0k (SA1 X tl version) (fun j=>l.length-j) (fun j=>j<=l.length) 0 (fun _=>rfl) (Nat.zero_le _) ?_ rfl ?_
  ·refine A0d ?_;simp -implicitDefEqProofs [SA1]
  rintro j hj;by_cases hlt:j<l.length
  ·obtain⟨c,hc⟩:∃c,l[j]?=some c:=⟨_,List.getElem?_eq_getElem hlt⟩
   obtain⟨pp,i1,ld9,ldn⟩:=B7y hu hc;have eL:=D4f c;have e1:IntKind.i64.wrap ((j:Int)+1)=((j+1:Nat):Int):=A0h (by omega) (by omega);refine A0c C ?_
   cases hL:B5b c.x with
   | false=>
    rw[hL]at eL;simp -implicitDefEqProofs [SA1,z.l1,l1,hlt,i1,ld9,eL,eX]
   | true=>
    rw[hL]at eL;by_cases h4:100<c.x.id.size
    ·have b4:decide ((100:Int)<(c.x.id.size:Int))=true:=by simpa using (by omega:(100:Int)<(c.x.id.size:Int))
     simp -implicitDefEqProofs [SA1,z.l1,l1,hlt,i1,ld9,ldn,eL,b4,eX]
    ·have b4:decide ((100:Int)<(c.x.id.size:Int))=false:=by simpa using (by omega:(c.x.id.size:Int)<=100)
     simp -implicitDefEqProofs [SA1,z.l1,l1,hlt,i1,ld9,ldn,eL,b4,e1];refine Abs.Next.mk (j+1) ⟨by omega,by omega⟩ ?_;exact A0d (by simp -implicitDefEqProofs)
  ·refine A0c C ?_;simp -implicitDefEqProofs [SA1,z.l1,l1,hlt];exact Abs.Next.mk () trivial (A0d (by simp -implicitDefEqProofs))
 rintro _ _;refine A0o (α:=Unit) (fun _=>⟨[(3,.ptr 0 0),(2,.t tl),(1,.t (sv version))],[(0,X)],1,100⟩) (fun _=>∀r:RD,r∈rs->SmK (dvs r.m)) (fun _=>rfl) ?_ ?_
 ·refine A0a C ?_;simp -implicitDefEqProofs;refine A0f ?_;refine A0k (SA2 X tl version) (fun j=>rs.length-j) (fun j=>j<=rs.length/\∀r:RD,r∈rs.take j->SmK (dvs r.m)) 0 (fun _=>rfl) ⟨Nat.zero_le _,by simp⟩ ?_ rfl ?_
  ·refine A0d ?_;simp -implicitDefEqProofs [SA2]
  rintro j ⟨hj,hsm⟩;by_cases hlt:j<rs.length
  ·obtain⟨r,hrx⟩:∃r,rs[j]?=some r:=⟨_,List.getElem?_eq_getElem hlt⟩
   obtain⟨p1,i2,ldr⟩:=E7x hr hrx;have eF:=C1n r.ok.isK;have e1:IntKind.i64.wrap ((j:Int)+1)=((j+1:Nat):Int):=A0h (by omega) (by omega);refine A0c C ?_
   cases hf:fewD 0 (dvs r.m)with
   | false=>
    rw[show fewD 0 (r.m.map DC.d)=false from hf]at eF;simp -implicitDefEqProofs [SA2,l2,hlt,i2,ldr,eF,eX]
   | true=>
    rw[show fewD 0 (r.m.map DC.d)=true from hf]at eF;simp -implicitDefEqProofs [SA2,l2,hlt,i2,ldr,eF,e1];refine Abs.Next.mk (j+1) ⟨⟨by omega,?_⟩,by omega⟩ ?_
    ·rw[List.take_add_one,hrx];intro r' hr';rcases List.mem_append.1 hr' with hr' | hr'
     ·exact hsm r' hr'
     ·rw[List.mem_singleton.1 hr'];exact D0z hf
    ·exact A0d (by simp -implicitDefEqProofs)
  ·rw[List.take_of_length_le (by omega)]at hsm;refine A0c C ?_;simp -implicitDefEqProofs [SA2,l2,hlt];exact Abs.Next.mk () hsm (A0d (by simp -implicitDefEqProofs))
 rintro _ hsm
 have hs:SmU ver l version rs:=⟨hb,hv,hds,hsm,by omega⟩
 obtain⟨v',u',l',nt,ns,e,hU,hu',hn',hl',hns,hse⟩:=E7d hu hs;have c1:=B3j (q:=q) hu hr hs;have c2:=D0t (q:=q) hu hr hs;rw[hU]at c1 c2;obtain⟨t1,o1,k1⟩:=C1m c1;obtain⟨t2,o2,k2⟩:=C1m c2;obtain⟨t3,o3,k3⟩:=C1m (C6v (q:=q) (ver:=v') hu' hu' rfl hl' hse);obtain⟨t4,o4,k4⟩:=C1m (E0w (q:=q) hn' hn' hns);have C2:Ctx Tryz.prog (G q) _:=(A0y.cons k1 (.cons k2 (.cons k3 (.cons k4 (.cons (E1e (q:=q)) .nil))))).ctx mixed;have s1:=sB [(0,X)] 1 (.t (.v (.string ⟨#[]⟩))) (.t (.v (.slice none 0 0))) v' hu';have s2:=sB [(1,bRow v' u'),(0,X)] 2 (.t (.v (.string ⟨#[]⟩))) (.t (.v (.slice none 0 0))) v' hu';have z2:=ldB (ver:=ver) (u:=u) (H:=[(1,bRow v' u'),(0,X)]) (b:=0) (by rw[hX];rfl);have w1:=ldB (ver:=v') (u:=u') (H:=[(2,bRow v' u'),(1,bRow v' u'),(0,X)]) (b:=1) rfl;have w2:=ldB (ver:=v') (u:=u') (H:=[(2,bRow v' u'),(1,bRow v' u'),(0,X)]) (b:=2) rfl;refine A0a C2 ?_;simp -implicitDefEqProofs [z.a,o1,s1];refine A0a C2 ?_;simp -implicitDefEqProofs [z2.a,o2,s2];refine A0c C2 ?_;simp -implicitDefEqProofs [w1.a,w2.a,o3,o4,eX]
end Go.Proofs.YtmplckgbeaifkaaGreatDoor
