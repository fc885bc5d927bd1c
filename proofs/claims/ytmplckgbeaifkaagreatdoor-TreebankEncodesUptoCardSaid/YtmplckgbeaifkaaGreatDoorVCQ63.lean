/- Auxiliary facts. -/
import Derived.Test.YtmplckgbeaifkaaGreatDoorVCQ56
import Derived.Test.YtmplckgbeaifkaaGreatDoorVCQ40
import Derived.Test.YtmplckgbeaifkaaGreatDoorVCQ64
import Derived.Test.YtmplckgbeaifkaaGreatDoorVCQ65
set_option linter.unusedSimpArgs false
set_option maxRecDepth 100000
set_option maxHeartbeats 0
set_option linter.unusedVariables false
namespace Go.Proofs.YtmplckgbeaifkaaGreatDoor
open Go Go.Abs
variable {q : Gl}
def stW (n:Int):List UInt8:=if n=0 then stN.getD 0 []else if n=1 then stN.getD 1 []else stN.getD 2 []
def kdW (n:Int):List UInt8:=if n=0 then kdN.getD 0 []else if n=1 then kdN.getD 1 []else if n=2 then kdN.getD 2 []else kdN.getD 3 []
theorem G4v {n:Int} (h:0<=n/\n<=2):stW n=stN.getD n.toNat []:=by
 have:n=0\/n=1\/n=2:=by omega
 rcases this with rfl | rfl | rfl<;>rfl
theorem F8h {n:Int} (h:0<=n/\n<=3):kdW n=kdN.getD n.toNat []:=by
 have:n=0\/n=1\/n=2\/n=3:=by omega
 rcases this with rfl | rfl | rfl | rfl<;>rfl
theorem D8a (n:Int):A0v Tryz.prog (G q) 86 [iv n] (· = sv (bs (stW n))):=by
 obtain⟨R,hR⟩:∃R,R=sv (bs (stW n)):=⟨_,rfl⟩
 rw[<-hR];refine C3u.call rfl ?_;(conv in B3f=>cbv);refine A0a A0z ?_;simp -implicitDefEqProofs;by_cases h0:n=0
 ·subst h0;have hR:R=sv ⟨#[111,112,101,110]⟩:=hR;refine A0a A0z ?_;simp -implicitDefEqProofs [hR]
 ·by_cases h1:n=1
  ·subst h1;have hR:R=sv ⟨#[97,99,99,101,112,116,101,100]⟩:=hR;refine A0a A0z ?_;simp -implicitDefEqProofs [hR]
  ·have b0:(n==0)=false:=by simpa using h0
   have b1:(n==1)=false:=by simpa using h1
   have hR:R=sv ⟨#[114,101,106,101,99,116,101,100]⟩:=by rw[hR];unfold stW;rw[if_neg h0,if_neg h1];rfl
   refine A0a A0z ?_;simp -implicitDefEqProofs [b0,b1];refine A0c A0z ?_;simp -implicitDefEqProofs [hR]
theorem D8b (n:Int):A0v Tryz.prog (G q) 133 [iv n] (· = sv (bs (kdW n))):=by
 obtain⟨R,hR⟩:∃R,R=sv (bs (kdW n)):=⟨_,rfl⟩
 rw[<-hR];refine C5l.call rfl ?_;(conv in B5b=>cbv);refine A0a A0z ?_;simp -implicitDefEqProofs;by_cases h0:n=0
 ·subst h0;have hR:R=sv ⟨#[101,110,116,114,121]⟩:=hR;refine A0a A0z ?_;simp -implicitDefEqProofs [hR]
 by_cases h1:n=1
 ·subst h1;have hR:R=sv ⟨#[108,101,120]⟩:=hR;refine A0a A0z ?_;simp -implicitDefEqProofs [hR]
 by_cases h2:n=2
 ·subst h2;have hR:R=sv ⟨#[114,117,108,101]⟩:=hR;refine A0a A0z ?_;simp -implicitDefEqProofs [hR]
 have b0:(n==0)=false:=by simpa using h0
 have b1:(n==1)=false:=by simpa using h1
 have b2:(n==2)=false:=by simpa using h2
 have hR:R=sv ⟨#[115,112,97,110]⟩:=by rw[hR];unfold kdW;rw[if_neg h0,if_neg h1,if_neg h2];rfl
 refine A0a A0z ?_;simp -implicitDefEqProofs [b0,b1,b2];refine A0c A0z ?_;simp -implicitDefEqProofs [hR]
noncomputable def gSN:List T->Option T:=g1 tInt fun n=>some (sv (bs (stW n)))
theorem hSN:GOK Tryz.prog (G q) 86 gSN:=A4c fun a x r ha hr=>by
 obtain rfl:a=iv x:=ha;injection hr with hr;subst hr;exact D8a x
theorem G4w (n:Int):gSN [iv n]=some (sv (bs (stW n))):=A5l (τ:=tInt) (x:=n) rfl
noncomputable def gKN:List T->Option T:=g1 tInt fun n=>some (sv (bs (kdW n)))
theorem hKN:GOK Tryz.prog (G q) 133 gKN:=A4c fun a x r ha hr=>by
 obtain rfl:a=iv x:=ha;injection hr with hr;subst hr;exact D8b x
theorem G4x (n:Int):gKN [iv n]=some (sv (bs (kdW n))):=A5l (τ:=tInt) (x:=n) rfl
theorem F2v:∀(l:List (List UInt8)) (w:List UInt8),jn (l++[w])=(if l=[]then []else jn l++[32])++w
 | [],w=>rfl
 | [x],w=>by simp[jn]
 | x::y::r,w=>by
  have:=F2v (y::r) w;rw[List.cons_append,List.cons_append,A6n,<-List.cons_append,this,A6n];simp
def SJr (t:T) (l:List ByteArray) (j:Nat):A0b:=⟨[(4,.t (iv (j:Int))),(3,.t (sv (bs (jn ((l.take j).map lbs))))),(0,.t t)],[],0,22⟩
theorem C4q (l:List (List UInt8)) (j:Nat):(jn (l.take j)).length<=(jn l).length:=by
 by_cases h:j<l.length
 ·obtain⟨y,r,e⟩:∃y r,l.drop j=y::r:=by
   cases hd:l.drop j with
   | nil=>have:=congrArg List.length hd;simp at this;omega
   | cons y r=>exact⟨y,r,rfl⟩
  have key:∀a b:List (List UInt8),(jn a).length<=(jn (a++b)).length:=by
   intro a
   induction a with
   | nil=>intro b;simp[jn]
   | cons x a ih=>
    intro b
    cases a with
    | nil=>
     cases b with
     | nil=>simp
     | cons y b=>simp[jn]
    | cons y a=>
     have:=ih b;rw[List.cons_append,List.cons_append,A6n,A6n,<-List.cons_append];simp only[List.length_append,List.length_cons]at this ⊢;omega
  have:=key (l.take j) (l.drop j);rwa[List.take_append_drop]at this
 ·rw[List.take_of_length_le (by omega)];exact Nat.le_refl _
theorem E5x {t:T} {l:List ByteArray} (ht:IsS eStr t l) (hl:l.length<=1000) (hd:(jn (l.map lbs)).length<=1000000000):A0v Tryz.prog (G q) 87 [t] (· = sv (bs (jn (l.map lbs)))):=by
 have l1:=ht.len
 obtain⟨R,hR⟩:∃R,R=sv (bs (jn (l.map lbs))):=⟨_,rfl⟩
 rw[<-hR];refine E5e.call rfl ?_;(conv in C7s=>cbv);refine A0a A0z ?_;simp -implicitDefEqProofs;refine A0a A0z ?_;simp -implicitDefEqProofs;refine A0s (α:=Unit) (fun _=>⟨[(3,.t R)],[],0,22⟩) (fun _=>True) (fun _=>rfl) ?_ ?_
 ·refine A0a A0z ?_;simp -implicitDefEqProofs;refine A0g ?_;refine D1u (SJr t l) l.length (fun _=>rfl) ?_ rfl ?_ ?_
  ·exact A0d (by simp -implicitDefEqProofs [SJr,jn])
  ·intro j hlt
   obtain⟨w,hw⟩:∃w,l[j]?=some w:=⟨_,List.getElem?_eq_getElem hlt⟩
   have i1:A1b 1 (.t t) (.t (iv (j:Int)))=_:=ht.iaddr hw .i64;have ld:∀(x:ByteArray) (r:List T) (H:Heap),A0e false 1 H (.t (.pt (eStr.enc x++r)))=some (.t (sv x)):=fun _ _ _=>rfl;have e1:IntKind.i64.wrap ((j:Int)+1)=((j+1:Nat):Int):=A0j (by omega) (by omega)
   obtain⟨A,hA⟩:∃A,A=jn ((l.take j).map lbs):=⟨_,rfl⟩
   obtain⟨B,hB⟩:∃B,B=jn ((l.take (j+1)).map lbs):=⟨_,rfl⟩
   have hBl:B.length<=1000000000:=by rw[hB,List.map_take];exact Nat.le_trans (C4q _ _) hd
   have hAl:A.length<=1000000000:=by rw[hA,List.map_take];exact Nat.le_trans (C4q _ _) hd
   have hBA:B=(if j=0 then []else A++[32])++lbs w:=by
    rw[hB,List.take_add_one,hw,List.map_append,hA];show jn (_++[lbs w])=_;rw[F2v];congr 1;by_cases h0:j=0
    ·subst h0;simp
    ·rw[if_neg h0,if_neg];intro e
     have:((l.take j).map lbs).length=0:=by rw[e];rfl
     rw[List.length_map,List.length_take]at this;omega
   unfold SJr;rw[<-hA,<-hB];by_cases h0:j=0
   ·have hA0:A=[]:=by rw[hA,h0];rfl
    have hjn:¬0<j:=by omega
    rw[if_pos h0,List.nil_append]at hBA;have c2:=fun Φ=>cat2 (Φ:=Φ) (a:=A) (b:=lbs w) (c:=B) (by rw[hA0,hBA];rfl) (by omega);have c2:∀(Φ:A0n) (isB:Bool) (nk:Option NK) (H:Heap) (nx:Nat),A0f Φ H nx (.bin isB .add nk) [.t (.v (.string (bs A))),.t (.v (.string w))]=some (.t (sv (bs B)),H,nx):=c2;refine A0c A0z ?_;simp -implicitDefEqProofs [l1,hlt,hjn,i1,ld,c2,e1];exact A0d (by simp -implicitDefEqProofs)
   ·rw[if_neg h0]at hBA
    obtain⟨A2,hA2⟩:∃A2,A2=A++[32]:=⟨_,rfl⟩
    have hjp:(0:Int)<(j:Int):=by omega
    have hjp':0<j:=by omega
    have c1:=fun Φ=>cat2 (Φ:=Φ) (a:=A) (b:=[32]) (c:=A2) hA2 (by rw[hA2];simp;omega);have c1:∀(Φ:A0n) (isB:Bool) (nk:Option NK) (H:Heap) (nx:Nat),A0f Φ H nx (.bin isB .add nk) [.t (.v (.string (bs A))),.t (.v (.string ⟨#[32]⟩))]=some (.t (sv (bs A2)),H,nx):=c1;have c2:=fun Φ=>cat2 (Φ:=Φ) (a:=A2) (b:=lbs w) (c:=B) (by rw[hA2];exact hBA) (by omega);have c2:∀(Φ:A0n) (isB:Bool) (nk:Option NK) (H:Heap) (nx:Nat),A0f Φ H nx (.bin isB .add nk) [.t (.v (.string (bs A2))),.t (.v (.string w))]=some (.t (sv (bs B)),H,nx):=c2;refine A0c A0z ?_;simp -implicitDefEqProofs [l1,hlt,hjp',i1,ld,c1,c2,e1];exact A0d (by simp -implicitDefEqProofs)
  ·refine A0c A0z ?_;simp -implicitDefEqProofs [SJr,l1];refine Abs.Next.mk () trivial (A0d ?_);rw[<-hR];simp -implicitDefEqProofs
 ·rintro _ -;refine A0c A0z ?_;simp -implicitDefEqProofs
theorem hRTJ:GOK Tryz.prog (G q) 87 gTJ:=A4c fun a l r ha hr=>by
 split at hr
 ·rename_i h;injection hr with hr;subst hr;exact E5x ha h.1 h.2
 ·cases hr
structure WrD (d:Dc):Prop where
 kind:0<=d.p.kind/\d.p.kind<=3
 name:d.p.name.size<=1000000
 frm:-9223372036854775808<=d.p.frm/\d.p.frm<=9223372036854775807
 to:-9223372036854775808<=d.p.to/\d.p.to<=9223372036854775807
theorem add2 {a b c:List UInt8} (h:c=a++b) (hl:c.length<=9223372036854775807):∀(Φ:A0n) (isB:Bool) (nk:Option NK) (H:Heap) (nx:Nat),A0f Φ H nx (.bin isB .add nk) [.t (.v (.string (bs a))),.t (.v (.string (bs b)))]=some (.t (sv (bs c)),H,nx):=fun _=>cat2 h hl
theorem D0l (d:Dc) (hw:WrD d):A0v Tryz.prog (G q) 88 [.ag (eDc.enc d)] (· = sv (bs (lnD d++[10]))):=by
 have eK:=G4x d.p.kind;have eF:=C0a hw.frm;have eT:=C0a hw.to;have hF:=Lib.itoa_length_le d.p.frm hw.frm.1 hw.frm.2;have hT:=Lib.itoa_length_le d.p.to hw.to.1 hw.to.2
 have hKl:(kdW d.p.kind).length<=5:=by rw[F8h hw.kind];exact F7z _
 have hN:=hw.name
 obtain⟨Y,hY⟩:∃Y,Y=(if d.yes then wYes else wNo)++[32]:=⟨_,rfl⟩
 obtain⟨NM,hNM⟩:∃NM,NM=if d.p.kind=3 then [45]else lbs d.p.name:=⟨_,rfl⟩
 have hYl:Y.length<=4:=by rw[hY];split<;>decide
 have hNl:NM.length<=1000000:=by
  rw[hNM];split
  ·decide
  ·exact hN
 obtain⟨A1,h1⟩:∃A,A=Y++kdW d.p.kind:=⟨_,rfl⟩
 obtain⟨A2,h2⟩:∃A,A=A1++[32]:=⟨_,rfl⟩
 obtain⟨A3,h3⟩:∃A,A=A2++NM:=⟨_,rfl⟩
 obtain⟨A4,h4⟩:∃A,A=A3++[32]:=⟨_,rfl⟩
 obtain⟨A5,h5⟩:∃A,A=A4++Lib.itoa d.p.frm:=⟨_,rfl⟩
 obtain⟨A6,h6⟩:∃A,A=A5++[32]:=⟨_,rfl⟩
 obtain⟨A7,h7⟩:∃A,A=A6++Lib.itoa d.p.to:=⟨_,rfl⟩
 obtain⟨A8,h8⟩:∃A,A=A7++[10]:=⟨_,rfl⟩
 have hL:lnD d++[10]=A8:=by
  rw[h8,h7,h6,h5,h4,h3,h2,h1,hY,hNM,F8h hw.kind];simp[lnD,jn]
 rw[hL]
 have z1:A1.length<=9:=by rw[h1,List.length_append];omega
 have z2:A2.length<=10:=by rw[h2,List.length_append];simp;omega
 have z3:A3.length<=1000010:=by rw[h3,List.length_append];omega
 have z4:A4.length<=1000011:=by rw[h4,List.length_append];simp;omega
 have z5:A5.length<=1000061:=by rw[h5,List.length_append];omega
 have z6:A6.length<=1000062:=by rw[h6,List.length_append];simp;omega
 have z7:A7.length<=1000112:=by rw[h7,List.length_append];omega
 have z8:A8.length<=1000113:=by rw[h8,List.length_append];simp;omega
 have c1:=add2 h1 (by omega);have c2:=add2 h2 (by omega);have c3:=add2 h3 (by omega);have c4:=add2 h4 (by omega);have c5:=add2 h5 (by omega);have c6:=add2 h6 (by omega);have c7:=add2 h7 (by omega);have c8:=add2 h8 (by omega);have cs:bs [32]=⟨#[32]⟩:=rfl;have cn:bs [10]=⟨#[10]⟩:=rfl;rw[cs]at c2 c4 c6;rw[cn]at c8;have C:Ctx Tryz.prog (G q) _:=(A0x.cons (hKN (q:=q)) (.cons (hRDe (q:=q)) .nil)).ctx mixed;have cd:A0q (.t (.ag (eDc.enc d)))=some ((eDc.enc d).map .t):=rfl;have l0:=E1h d [] 0;have l1:=E1i d [] 0;have l2:=E1j d [] 0;have l3:=E1k d [] 0;have l4:=E1l d [] 0;refine C9y.call rfl ?_;(conv in B7t=>cbv);refine A0a C ?_;simp -implicitDefEqProofs [cd];rw[show Row.cells 61 ((eDc.enc d).map .t)=A2d d from rfl];refine A0a C ?_;simp -implicitDefEqProofs;refine A0s (α:=Unit) (fun _=>⟨[(3,.t (sv (bs Y))),(1,.ptr 0 0)],[(0,A2d d)],1,36⟩) (fun _=>True) (fun _=>rfl) ?_ ?_
 ·cases hy:d.yes with
  | true=>
   rw[hy]at hY l4
   have hY:bs Y=⟨#[121,101,115,32]⟩:=by rw[hY];rfl
   refine A0c C ?_;simp -implicitDefEqProofs [l4];refine Abs.Next.mk () trivial ?_;rw[hY];exact A0d (by simp -implicitDefEqProofs)
  | false=>
   rw[hy]at hY l4
   have hY:bs Y=⟨#[110,111,32]⟩:=by rw[hY];rfl
   refine A0c C ?_;simp -implicitDefEqProofs [l4];refine Abs.Next.mk () trivial ?_;rw[hY];exact A0d (by simp -implicitDefEqProofs)
 rintro _ -;refine A0a C ?_;simp -implicitDefEqProofs [l1];refine A0s (α:=Unit) (fun _=>⟨[(4,.t (sv (bs NM))),(3,.t (sv (bs Y))),(1,.ptr 0 0)],[(0,A2d d)],1,36⟩) (fun _=>True) (fun _=>rfl) ?_ ?_
 ·by_cases hk:d.p.kind=3
  ·have hb:(d.p.kind==3)=true:=by simpa using hk
   rw[if_pos hk]at hNM
   have hNM:bs NM=⟨#[45]⟩:=by rw[hNM]
   refine A0c C ?_;simp -implicitDefEqProofs [l0,hb];refine Abs.Next.mk () trivial ?_;rw[hNM];exact A0d (by simp -implicitDefEqProofs)
  ·have hb:(d.p.kind==3)=false:=by simpa using hk
   rw[if_neg hk]at hNM
   have hNM:bs NM=d.p.name:=by rw[hNM]
   refine A0c C ?_;simp -implicitDefEqProofs [l0,hb];refine Abs.Next.mk () trivial ?_;rw[hNM];exact A0d (by simp -implicitDefEqProofs)
 rintro _ -;refine A0a C ?_;simp -implicitDefEqProofs [l0,l2,l3,eK,eF,eT,c1,c2,c3,c4,c5,c6,c7,c8];refine A0c C ?_;simp -implicitDefEqProofs
noncomputable def G4y:List T->Option T:=g1 (tAg eDc) fun d=>open Classical in if WrD d then some (sv (bs (lnD d++[10])))else none
theorem hDcd2:GOK Tryz.prog (G q) 88 G4y:=A4c fun a d r ha hr=>by
 obtain rfl:a = .ag (eDc.enc d):=ha;split at hr
 ·rename_i h;injection hr with hr;subst hr;exact D0l d h
 ·cases hr
theorem F6u {d:Dc} (h:WrD d):G4y [.ag (eDc.enc d)]=some (sv (bs (lnD d++[10]))):=by
 show g1 _ _ _=_;rw[A5l (τ:=tAg eDc) (x:=d) rfl,if_pos h]
def SEn1 (X:Row) (a:Nat×List UInt8):A0b:=⟨[(6,.t (iv (a.1:Int))),(5,.t (sv (bs a.2))),(1,.ptr 0 0)],[(0,X)],1,75⟩
def SEn2 (X I:Row) (j:Nat) (a:Nat×List UInt8):A0b:=⟨[(8,.t (iv (a.1:Int))),(7,.ptr 1 0),(6,.t (iv (j:Int))),(5,.t (sv (bs a.2))),(1,.ptr 0 0)],[(1,I),(0,X)],2,75⟩
theorem G4z {d:Dc} {n:Int} (h:chkP d.p n=0) (hn:n<=1000):WrD d:=by
 obtain⟨h1,h2,h3,h4,_⟩:=D7u h hn;exact⟨h1,by omega,h3,h4⟩
theorem F2w (A:List UInt8) (x:It) (S:List UInt8) (hS:S=stN.getD x.state.toNat []) :
  ((((((A++[105,116,101,109,32])++lbs x.id)++[32])++S)++[10,119,111,114,100,115,32])++jn (x.words.map lbs))++[10]=A++(i1 x++i2 x):=by
 subst hS;simp[i1,i2,jn,A5n,A3o]
theorem F2x (A:List UInt8) (d:Dv):((A++[103,111,108,100,32])++prtD d)++[10]=A++(jn [A8h,prtD d]++[10]):=by
 simp[jn,A8h]
theorem D4x {ver:ByteArray} {u:T} {l:List IC} (hu:IsS eIC u l) (hs:SmB ver l):A0v Tryz.prog (G q) 48 [.ag [sv ver,u]] (· = encR ⟨ver,l.map IC.x⟩):=by
 have cd:A0q (.t (.ag [sv ver,u]))=some [.t (sv ver),.t u]:=rfl;have l1:=hu.len;have hll:=hs.len;have eC:=C3y hu hs
 obtain⟨P,hP⟩:∃P,P=encR ⟨ver,l.map IC.x⟩:=⟨_,rfl⟩
 rw[<-hP];unfold encR encT at hP
 obtain⟨X,hX⟩:∃X,X=bRow ver u:=⟨_,rfl⟩
 have hXc:∃(ty:Nat) (cs:List T),X = .cells ty (cs.map .t):=⟨_,[sv ver,u],hX⟩
 have z:=ldB (ver:=ver) (u:=u) (H:=[(0,X)]) (b:=0) (by rw[hX];rfl);have C:Ctx Tryz.prog (G q) _:=(A0x.cons (D7p (q:=q)) (.cons (hSN (q:=q)) (.cons (hRTJ (q:=q)) (.cons (hDcd2 (q:=q)) (.cons (G2t (q:=q)) .nil))))).ctx mixed;refine D3y.call rfl ?_;(conv in C0g=>cbv);refine A0a C ?_;simp -implicitDefEqProofs [cd];rw[show Row.cells 39 [.t (sv ver),.t u]=X from hX.symm];by_cases h1:chkT ⟨ver,l.map IC.x⟩=0
 rotate_left
 ·rw[if_pos h1]at hP
  have hb:(chkT ⟨ver,l.map IC.x⟩ != 0)=true:=by simpa using h1
  refine A0a C ?_;simp -implicitDefEqProofs [z.a,eC];refine A0a C ?_;simp -implicitDefEqProofs [hb,hP]
 rw[if_neg (fun e=>e h1)]at hP;rw[h1]at eC
 obtain⟨E,hE⟩:∃E,E=unl (lnsB ⟨ver,l.map IC.x⟩):=⟨_,rfl⟩
 have hEl:=E1g h1;obtain⟨_,_,hit,_⟩:=A6t.1 h1;rw[<-hE]at hP hEl;rw[D0h]at hE
 obtain⟨V1,hV1⟩:∃V1,V1=[118,101,114,115,105,111,110,32]++lbs ver:=⟨_,rfl⟩
 obtain⟨V2,hV2⟩:∃V2,V2=V1++[10]:=⟨_,rfl⟩
 have hE0:E=V2++(l.map IC.x).flatMap iAll:=by
  rw[hE,hV2,hV1];congr 1
 have hV2l:V2.length<=100000000:=by have:=congrArg List.length hE0;rw[List.length_append]at this;omega
 have hV1l:V1.length<=100000000:=by rw[hV2,List.length_append]at hV2l;omega
 have c1:=add2 hV1 (by omega);have c2:=add2 hV2 (by omega);have c1:∀(Φ:A0n) (isB:Bool) (nk:Option NK) (H:Heap) (nx:Nat),A0f Φ H nx (.bin isB .add nk) [.t (.v (.string ⟨#[118,101,114,115,105,111,110,32]⟩)),.t (.v (.string ver))]=some (.t (sv (bs V1)),H,nx):=c1;have c2:∀(Φ:A0n) (isB:Bool) (nk:Option NK) (H:Heap) (nx:Nat),A0f Φ H nx (.bin isB .add nk) [.t (.v (.string (bs V1))),.t (.v (.string ⟨#[10]⟩))]=some (.t (sv (bs V2)),H,nx):=c2;refine A0a C ?_;simp -implicitDefEqProofs [z.a,eC];refine A0a C ?_;simp -implicitDefEqProofs;refine A0a C ?_;simp -implicitDefEqProofs [z.l0,c1,c2];refine A0s (α:=Unit) (fun _=>⟨[(5,.t (sv (bs E)))],[],0,75⟩) (fun _=>True) (fun _=>rfl) ?_ ?_
 ·refine A0a C ?_;simp -implicitDefEqProofs;refine A0g ?_;refine A0t (SEn1 X) (fun a=>l.length-a.1) (fun a=>a.1<=l.length/\a.2++((l.map IC.x).drop a.1).flatMap iAll=E) (0,V2) (fun _=>rfl) ⟨Nat.zero_le _,by rw[hE0];rfl⟩ ?_ rfl ?_
  ·exact A0d (by simp -implicitDefEqProofs [SEn1])
  rintro⟨j,A⟩ ⟨hj,heq⟩;simp only at hj heq;unfold SEn1;by_cases hlt:j<l.length
  ·obtain⟨c,hc⟩:∃c,l[j]?=some c:=⟨_,List.getElem?_eq_getElem hlt⟩
   obtain⟨pp,ia,ld9,_⟩:=B3h hu hc
   have hcx:(l.map IC.x)[j]?=some c.x:=by rw[List.getElem?_map,hc];rfl
   obtain⟨hidn,hck⟩:=hit c.x (List.mem_of_getElem? hcx);have ok:=C9b hck;have hdl:=C4g hck;have hsc:=hs.items c (List.mem_of_getElem? hc);have ej:IntKind.i64.wrap ((j:Int)+1)=((j+1:Nat):Int):=A0j (by omega) (by omega);rw[D4l hcx]at heq
   have hAl:A.length+(iAll c.x).length<=100000000:=by have:=congrArg List.length heq;simp only[List.length_append]at this;omega
   obtain⟨tw,td,k,nm,f,t,tk,ks,ecs,hg,hk,hw,hd,hgD⟩:=A1g c.ok;rw[ecs]at ld9
   obtain⟨I,hI⟩:∃I,I=iRow c.x.id tw c.x.state td k nm f t tk:=⟨_,rfl⟩
   have hIc:∃(ty:Nat) (cs:List T),I = .cells ty (cs.map .t):=⟨_,[sv c.x.id,tw,iv c.x.state,td,iv k,sv nm,iv f,iv t,tk],hI⟩
   have s3:=sI9 c.x.id tw c.x.state td k nm f t tk [(0,X)] 1 [.t (.v (.string ⟨#[]⟩)),.t (.v (.slice none 0 0)),.t (.v (.int .i64 0)),.t (.v (.slice none 0 0)),.t (.v (.int .i64 0)),.t (.v (.string ⟨#[]⟩)),.t (.v (.int .i64 0)),.t (.v (.int .i64 0)),.t (.v (.slice none 0 0))] rfl;rw[<-hI]at s3;have za:=ldI c.x.id tw c.x.state td k nm f t tk (H:=[(1,I),(0,X)]) (b:=1) (by rw[hI];rfl);have hwl:=C4h ok;have eTJ:=F8a hw (by have:=ok.words.2.1;omega) (by omega:(jn (c.x.words.map lbs)).length<=1000000000);have eS:=G4w c.x.state;have hstw:=G4v (n:=c.x.state) (by have:=ok.state;omega);have eP:=E9k hgD hsc.gold
   have hlen3:A.length+((i1 c.x).length+((i2 c.x).length+((i3 c.x.decs).length+(i4 c.x).length)))<=100000000:=by
    unfold iAll at hAl;simp only[List.length_append]at hAl;exact hAl
   obtain⟨B1,hB1⟩:∃B,B=A++[105,116,101,109,32]:=⟨_,rfl⟩
   obtain⟨B2,hB2⟩:∃B,B=B1++lbs c.x.id:=⟨_,rfl⟩
   obtain⟨B3,hB3⟩:∃B,B=B2++[32]:=⟨_,rfl⟩
   obtain⟨B4,hB4⟩:∃B,B=B3++stW c.x.state:=⟨_,rfl⟩
   obtain⟨B5,hB5⟩:∃B,B=B4++[10,119,111,114,100,115,32]:=⟨_,rfl⟩
   obtain⟨B6,hB6⟩:∃B,B=B5++jn (c.x.words.map lbs):=⟨_,rfl⟩
   obtain⟨B7,hB7⟩:∃B,B=B6++[10]:=⟨_,rfl⟩
   have hB7e:B7=A++(i1 c.x++i2 c.x):=by rw[hB7,hB6,hB5,hB4,hB3,hB2,hB1];exact F2w A c.x _ hstw
   have y7:B7.length<=100000000:=by rw[hB7e];simp only[List.length_append];omega
   have y6:B6.length<=100000000:=by rw[hB7,List.length_append]at y7;omega
   have y5:B5.length<=100000000:=by rw[hB6,List.length_append]at y6;omega
   have y4:B4.length<=100000000:=by rw[hB5,List.length_append]at y5;omega
   have y3:B3.length<=100000000:=by rw[hB4,List.length_append]at y4;omega
   have y2:B2.length<=100000000:=by rw[hB3,List.length_append]at y3;omega
   have y1:B1.length<=100000000:=by rw[hB2,List.length_append]at y2;omega
   have b1:=add2 hB1 (by omega);have b2:=add2 hB2 (by omega);have b3:=add2 hB3 (by omega);have b4:=add2 hB4 (by omega);have b5:=add2 hB5 (by omega);have b6:=add2 hB6 (by omega);have b7:=add2 hB7 (by omega);have q1:bs [105,116,101,109,32]=⟨#[105,116,101,109,32]⟩:=rfl;have q2:bs (lbs c.x.id)=c.x.id:=rfl;have q3:bs [32]=⟨#[32]⟩:=rfl;have q5:bs [10,119,111,114,100,115,32]=⟨#[10,119,111,114,100,115,32]⟩:=rfl;have q7:bs [10]=⟨#[10]⟩:=rfl;rw[q1]at b1;rw[q2]at b2;rw[q3]at b3;rw[q5]at b5;rw[q7]at b7;refine A1p ?_;refine A0c C ?_;simp -implicitDefEqProofs [z.l1,l1,hlt];refine⟨rfl,?_⟩;refine A0s (α:=List UInt8) (fun B=>⟨[(6,.t (iv (j:Int))),(5,.t (sv (bs B))),(1,.ptr 0 0)],[(0,X)],1,75⟩) (fun B=>B=A++iAll c.x) (fun _=>rfl) ?_ ?_
   ·refine A0g ?_;refine A0a C ?_;simp -implicitDefEqProofs [z.l1,ia,ld9,s3];refine A0a C ?_;simp -implicitDefEqProofs [za.l0,za.l1,za.l2,eS,eTJ,b1,b2,b3,b4,b5,b6,b7];refine A0s (α:=Unit) (fun _=>⟨[(7,.ptr 1 0),(6,.t (iv (j:Int))),(5,.t (sv (bs (B7++i3 c.x.decs)))),(1,.ptr 0 0)],[(1,I),(0,X)],2,75⟩) (fun _=>True) (fun _=>rfl) ?_ ?_
    ·refine A0a C ?_;simp -implicitDefEqProofs;refine A0g ?_;refine A0t (SEn2 X I j) (fun a=>c.x.decs.length-a.1) (fun a=>a.1<=c.x.decs.length/\a.2++i3 (c.x.decs.drop a.1)=B7++i3 c.x.decs) (0,B7) (fun _=>rfl) ⟨Nat.zero_le _,rfl⟩ ?_ rfl ?_
     ·exact A0d (by simp -implicitDefEqProofs [SEn2])
     rintro⟨i,D⟩ ⟨hi,heq2⟩;simp only at hi heq2;unfold SEn2;have ldl:=hd.len;by_cases hlt2:i<c.x.decs.length
     ·obtain⟨d,hdx⟩:∃d,c.x.decs[i]?=some d:=⟨_,List.getElem?_eq_getElem hlt2⟩
      obtain⟨pd,id1,ld5,_,_⟩:=C5g hd hdx;have ei:IntKind.i64.wrap ((i:Int)+1)=((i+1:Nat):Int):=A0j (by omega) (by omega);have eD:=F6u (G4z (ok.decs d (List.mem_of_getElem? hdx)) (by have:=ok.words.2.1;omega));rw[F2c hdx]at heq2
      obtain⟨D2,hD2⟩:∃D2,D2=D++(lnD d++[10]):=⟨_,rfl⟩
      have heq3:D2++i3 (c.x.decs.drop (i+1))=B7++i3 c.x.decs:=by rw[hD2,<-heq2];simp only[List.append_assoc]
      have hDl:D2.length<=200000000:=by
       have:=congrArg List.length heq3;rw[List.length_append,List.length_append,hB7e,List.length_append,List.length_append]at this;omega
      have cc:=add2 hD2 (by omega);refine A1p ?_;refine A0c C ?_;simp -implicitDefEqProofs [za.l3,ldl,hlt2];refine⟨rfl,?_⟩;refine A1p ?_;refine A0g ?_;refine A0c C ?_;simp -implicitDefEqProofs [za.l3,id1,ld5,eD,cc];refine⟨rfl,?_⟩;refine A0c C ?_;simp -implicitDefEqProofs [ei];exact Abs.Next.mk (i+1,D2) ⟨⟨by show i+1<=_;omega,heq3⟩,by show c.x.decs.length-(i+1)<c.x.decs.length-i;omega⟩ (A0d (by simp -implicitDefEqProofs))
     ·have hie:i=c.x.decs.length:=by omega
      subst hie;rw[List.drop_length]at heq2
      have heq2:D=B7++i3 c.x.decs:=by rw[<-heq2];simp[i3]
      refine A1p ?_;refine A0c C ?_;simp -implicitDefEqProofs [za.l3,ldl];refine Abs.Next.mk () trivial ?_;rw[<-heq2];exact A0d (by simp -implicitDefEqProofs)
    rintro _ -
    obtain⟨D,hD⟩:∃D,D=B7++i3 c.x.decs:=⟨_,rfl⟩
    rw[<-hD]
    have hfin:D++i4 c.x=A++iAll c.x:=by rw[hD,hB7e];unfold iAll;simp only[List.append_assoc]
    have hDl:D.length+(i4 c.x).length<=200000000:=by
     have:=congrArg List.length hfin;rw[List.length_append,List.length_append]at this;omega
    by_cases h4:c.x.state=1
    ·have hb:(c.x.state==1)=true:=by simpa using h4
     have hi4:i4 c.x=jn [A8h,prtD c.x.gold]++[10]:=by unfold i4;rw[if_pos h4]
     obtain⟨G1,hG1⟩:∃B,B=D++[103,111,108,100,32]:=⟨_,rfl⟩
     obtain⟨G2,hG2⟩:∃B,B=G1++prtD c.x.gold:=⟨_,rfl⟩
     obtain⟨G3,hG3⟩:∃B,B=G2++[10]:=⟨_,rfl⟩
     have hG3e:G3=D++i4 c.x:=by rw[hG3,hG2,hG1,hi4];exact F2x D c.x.gold
     have w3:G3.length<=200000000:=by rw[hG3e,List.length_append];omega
     have w2:G2.length<=200000000:=by rw[hG3,List.length_append]at w3;omega
     have w1:G1.length<=200000000:=by rw[hG2,List.length_append]at w2;omega
     have g1:=add2 hG1 (by omega);have g2:=add2 hG2 (by omega);have g3:=add2 hG3 (by omega);have p1:bs [103,111,108,100,32]=⟨#[103,111,108,100,32]⟩:=rfl;rw[p1]at g1;rw[q7]at g3;have zg:=za.g;refine A0c C ?_;simp -implicitDefEqProofs [za.l2,hb,g1,zg,eP,g2,g3];refine Abs.Next.mk G3 (hG3e.trans hfin) ?_
     exact A7z (by omega) (fun z hz=>by
      simp only[List.mem_singleton]at hz;subst hz;obtain⟨ty,cs,hcX⟩:=hXc
      exact⟨rfl,by show 0<1;omega,by rw[hcX];exact A1e _ _⟩) (by simp -implicitDefEqProofs [under])
    ·have hb:(c.x.state==1)=false:=by simpa using h4
     have hi4:i4 c.x=[]:=by unfold i4;rw[if_neg h4]
     refine A0c C ?_;simp -implicitDefEqProofs [za.l2,hb];refine Abs.Next.mk D (by rw[<-hfin,hi4,List.append_nil]) ?_
     exact A7z (by omega) (fun z hz=>by
      simp only[List.mem_singleton]at hz;subst hz;obtain⟨ty,cs,hcX⟩:=hXc
      exact⟨rfl,by show 0<1;omega,by rw[hcX];exact A1e _ _⟩) (by simp -implicitDefEqProofs [under])
   ·rintro B rfl;refine A0c C ?_;simp -implicitDefEqProofs [ej];exact Abs.Next.mk (j+1,A++iAll c.x) ⟨⟨by show j+1<=_;omega,by show(A++iAll c.x)++_=E;rw[<-heq,List.append_assoc]⟩,by show l.length-(j+1)<l.length-j;omega⟩ (A0d (by simp -implicitDefEqProofs))
  ·have hje:j=l.length:=by omega
   subst hje
   have heq:A=E:=by rw[<-heq,List.drop_of_length_le (by rw[List.length_map];omega)];simp
   subst heq;refine A1p ?_;refine A0c C ?_;simp -implicitDefEqProofs [z.l1,l1];exact Abs.Next.mk () trivial (A7z (by omega) (fun z hz=>by cases hz) (by simp -implicitDefEqProofs [under]))
 ·rintro _ -;have hsz:(bs E).size=E.length:=A0k E;by_cases h5:65536<E.length
  ·rw[if_pos h5]at hP
   have hb:(65536:Int)<(E.length:Int):=by omega
   refine A0a C ?_;simp -implicitDefEqProofs [hsz,hb,hP]
  ·rw[if_neg h5]at hP
   have hb:¬(65536:Int)<(E.length:Int):=by omega
   refine A0a C ?_;simp -implicitDefEqProofs [hsz,hb];refine A0c C ?_;simp -implicitDefEqProofs [hP]
theorem hREnc:GOK Tryz.prog (G q) 48 gEnc:=F2y D4x
theorem D4y {tb:List T} (b:TBI tb):A0v Tryz.prog (G q) 11 [.ag tb] (· = bv true):=by
 have eL:=b.lt;have eE:=b.enc;have eX:gEx []=some (bv true):=rfl;have cd:A0q (.t (.ag tb))=some (tb.map .t):=rfl
 obtain⟨X,hX⟩:∃X,X=Row.cells 39 (tb.map .t):=⟨_,rfl⟩
 have lX:∀H b,Abs.look H b=some X->A0e true 2 H (.ptr b 0)=some (.t (.ag tb)):=fun H k h=>ldT (h.trans (by rw[hX])) b.len;have C:Ctx Tryz.prog (G q) _:=(A0x.cons (hLB (q:=q)) (.cons (hEnc (q:=q)) (.cons (hREnc (q:=q)) (.cons (D4v (q:=q)) .nil)))).ctx mixed;refine B3g.call rfl ?_;(conv in A7b=>cbv);refine A0a C ?_;simp -implicitDefEqProofs [cd];rw[<-hX]
 cases hl:ltB b.tb with
 | false=>
  rw[hl]at eL;refine A0a C ?_;simp -implicitDefEqProofs [lX,eL,eX]
 | true=>
 rw[hl]at eL
 obtain⟨s,e,he⟩:∃s e,encR b.tb = .tu [sv s,iv e]:=by
  unfold encR
  cases encT b.tb with
  | error e=>exact⟨_,_,rfl⟩
  | ok s=>exact⟨_,_,rfl⟩
 rw[he]at eE;have hs:=B3m s s;rw[decide_eq_true rfl]at hs;refine A0a C ?_;simp -implicitDefEqProofs [lX,eL];refine A0a C ?_;simp -implicitDefEqProofs [lX,eE];refine A0a C ?_;simp -implicitDefEqProofs [lX,eE];refine A0c C ?_;simp -implicitDefEqProofs [hs,eX]
end Go.Proofs.YtmplckgbeaifkaaGreatDoor
