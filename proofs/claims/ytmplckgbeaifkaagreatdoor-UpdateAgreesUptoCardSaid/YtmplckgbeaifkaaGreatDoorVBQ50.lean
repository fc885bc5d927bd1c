/-
 Auxiliary facts. No statement of the program stands here.
-/
import Derived.Test.YtmplckgbeaifkaaGreatDoorVBQ21
import Derived.Test.YtmplckgbeaifkaaGreatDoorVBQ49
namespace Go.Proofs.YtmplckgbeaifkaaGreatDoor
set_option linter.unusedSimpArgs false
set_option linter.unusedVariables false
open Go Go.Abs Go.ChangeShapes Go.WideShapes Go.ChangeAt Go.RowKit
section
variable {H : Type} {enc : TypeId × Value -> H} {W : World} {spare : Nat -> Bool} {held : Bool} {N : Nat}
def Bd (b:Nat) (d:Dv):Prop:=6*nodD d<=b/\(b<=2000000->A8n d)/\IntD d
theorem Bd.wd {b:Nat} {d:Dv} (h:Bd b d) (hb:b<=1048576):Wd d:=⟨h.2.1 (by omega),h.2.2,by have:=h.1;omega⟩
theorem F9g {bs:List Nat} {l:List DC} (h:F2 (fun b c=>Bd b c.d) bs l):6*nodK (l.map DC.d)<=bs.sum/\(bs.sum<=2000000->A6k (l.map DC.d))/\IntK (l.map DC.d):=by
 induction h with
 | nil=>exact⟨by simp[nodK],fun _=>by simp[A6k],by simp[IntK]⟩
 | cons h1 _ ih=>
  obtain⟨a1,a2,a3⟩:=h1;obtain⟨i1,i2,i3⟩:=ih;simp only[List.map_cons,List.sum_cons,nodK,A6k,IntK];exact⟨by omega,fun hs=>⟨a2 (by omega),i2 (by omega)⟩,a3,i3⟩
set_option maxRecDepth 100000 in
theorem C6z:∀N,Rd enc Tryz.prog W spare held N 26 fun b ts=>∃c:DC,ts=eDC.enc c/\Bd b c.d
 | 0=>fun fuel hf=>by omega
 | N+1=>by
  have hk:=(B1w (e:=eDC) (R:=fun b c=>Bd b c.d) Tryz.underlying24 (by kernel_rfl) (C6z N)).less (Nat.le_succ N);refine(B0t (N:=N) Tryz.underlying26 ⟨rfl,by kernel_rfl,by kernel_rfl,by kernel_rfl,by kernel_rfl,trivial⟩ (by kernel_rfl) (.cons (C0a Tryz.underlying3) (.cons (C9c Tryz.underlying9) (.cons (C0a Tryz.underlying3) (.cons (C0a Tryz.underlying3) (.cons hk .nil)))))).mono fun b ts h=>?_;obtain⟨_,rfl,b0,_,t0,_,rfl,rfl,⟨k,rfl,rfl,hk⟩,b1,_,t1,_,rfl,rfl,⟨nm,rfl,rfl⟩,b2,_,t2,_,rfl,rfl,⟨f,rfl,rfl,hf⟩,b3,_,t3,_,rfl,rfl,⟨t,rfl,rfl,ht⟩,b4,_,t4,_,rfl,rfl,⟨x,l,bs,rfl,hx,hF,hb⟩,rfl,rfl⟩:=h;obtain⟨h1,h2,h3⟩:=F9g hF;refine⟨⟨.mk k nm f t (l.map DC.d),[iv k,sv nm,iv f,iv t,x],?_⟩,rfl,?_,fun hs=>?_,?_⟩
  ·rw[Abs.IsD];exact⟨x,rfl,hx.isK⟩
  ·show 6*nodD (.mk k nm f t (l.map DC.d))<=_;rw[nodD];omega
  ·show A8n (.mk k nm f t (l.map DC.d));rw[A8n];exact⟨by omega,h2 (by omega)⟩
  ·show IntD (.mk k nm f t (l.map DC.d));rw[IntD];exact⟨hk,hf,ht,h3⟩
set_option maxRecDepth 100000 in
theorem F5x:Rd enc Tryz.prog W spare held N 59 fun b ts=>∃p:Pr,ts=ePr.enc p/\p.name.size+5<=b:=by
 refine(B0t (N:=N) (P:=Tryz.prog) Tryz.underlying59 ⟨rfl,by kernel_rfl,by kernel_rfl,by kernel_rfl,trivial⟩ (by kernel_rfl) (.cons (C0a Tryz.underlying3) (.cons (C9c Tryz.underlying9) (.cons (C0a Tryz.underlying3) (.cons (C0a Tryz.underlying3) .nil))))).less (Nat.le_succ N) |>.mono fun b ts h=>?_
 obtain⟨_,rfl,b0,_,t0,_,rfl,rfl,⟨k,rfl,rfl,_⟩,b1,_,t1,_,rfl,rfl,⟨nm,rfl,rfl⟩,b2,_,t2,_,rfl,rfl,⟨f,rfl,rfl,_⟩,b3,_,t3,_,rfl,rfl,⟨t,rfl,rfl,_⟩,rfl,rfl⟩:=h;exact⟨⟨k,nm,f,t⟩,rfl,by show nm.size+5<=_;omega⟩
set_option maxRecDepth 100000 in
theorem D4c:Rd enc Tryz.prog W spare held N 61 fun b ts=>∃d:Dc,ts=eDc.enc d/\d.p.name.size+7<=b:=by
 refine(B0t (N:=N) (P:=Tryz.prog) Tryz.underlying61 ⟨rfl,by kernel_rfl,trivial⟩ (by kernel_rfl) (.cons F5x (.cons (F4c Tryz.underlying4) .nil))).less (Nat.le_succ N) |>.mono fun b ts h=>?_
 obtain⟨_,rfl,b0,_,t0,_,rfl,rfl,⟨p,rfl,hp⟩,b1,_,t1,_,rfl,rfl,⟨y,rfl,rfl⟩,rfl,rfl⟩:=h;exact⟨⟨p,y⟩,rfl,by show p.name.size+7<=_;omega⟩
structure Bi (b:Nat) (x:It):Prop where
 id:x.id.size<=b
 words:x.words.length<=b
 word:∀w∈x.words,w.size<=b
 decs:7*x.decs.length<=b
 names:∀d∈x.decs,d.p.name.size<=b
 gold:Bd b x.gold
 big:11<=b
theorem Bd.up {b b':Nat} {d:Dv} (h:Bd b d) (hb:b<=b'):Bd b' d:=⟨by have:=h.1;omega,fun h'=>h.2.1 (by omega),h.2.2⟩
theorem Bi.sm {b:Nat} {x:It} (h:Bi b x) (hb:b<=1048576):SmI x:=
 ⟨⟨by have:=h.words;omega,fun w hw=>by have:=h.word w hw;unfold lim;omega⟩,by have:=h.decs;omega,fun d hd=>by have:=h.names d hd;unfold lim;omega,h.gold.wd hb,by have:=h.id;unfold lim;omega⟩
theorem Bi.decs' {b:Nat} {x:It} (h:Bi b x) (hb:b<=1048576):x.decs.length<=200000:=by have:=h.decs;omega
set_option maxRecDepth 100000 in
theorem E7y:Rd enc Tryz.prog W spare held N 28 fun b ts=>∃c:IC,ts=eIC.enc c/\Bi b c.x:=by
 have hw:=(B1w (N:=N) (enc:=enc) (W:=W) (spare:=spare) (held:=held) (P:=Tryz.prog) (e:=eStr) (R:=fun b s=>b=s.size+1) Tryz.underlying22 (by kernel_rfl) ((C9c Tryz.underlying9).mono fun b ts ⟨s,e,h⟩=>⟨s,e,h⟩)).less (Nat.le_succ N);have hd:=(B1w (N:=N) (enc:=enc) (W:=W) (spare:=spare) (held:=held) (P:=Tryz.prog) (e:=eDc) (R:=fun b d=>d.p.name.size+7<=b) Tryz.underlying23 (by kernel_rfl) D4c).less (Nat.le_succ N)
 refine(B0t (N:=N) (P:=Tryz.prog) Tryz.underlying28 ⟨rfl,by kernel_rfl,by kernel_rfl,by kernel_rfl,by kernel_rfl,trivial⟩ (by kernel_rfl) (.cons (C9c Tryz.underlying9) (.cons hw (.cons (C0a Tryz.underlying3) (.cons hd (.cons (C6z N) .nil)))))).less (Nat.le_succ N) |>.mono fun b ts h=>?_
 obtain⟨_,rfl,b0,_,t0,_,rfl,rfl,⟨id,rfl,rfl⟩,b1,_,t1,_,rfl,rfl,⟨tw,ws,bw,rfl,hw,hwF,hwb⟩,b2,_,t2,_,rfl,rfl,⟨st,rfl,rfl,_⟩,b3,_,t3,_,rfl,rfl,⟨td,ds,bd,rfl,hd,hdF,hdb⟩,b4,_,t4,_,rfl,rfl,⟨g,rfl,hg⟩,rfl,rfl⟩:=h;have l1:=hwF.len (k:=1) (fun b a h=>by omega);have l2:=hdF.len (k:=7) (fun b a h=>by omega);have g1:=hg.1
 have g2:1<=nodD g.d:=by cases g.d;rw[nodD];omega
 refine⟨⟨⟨id,ws,st,ds,g.d⟩,[sv id,tw,iv st,td]++g.cs,tw,td,g.cs,rfl,hw,hd,g.ok⟩,by show _=[sv id,tw,iv st,td]++g.cs;simp[eDC],?_⟩;refine⟨by show id.size<=_;omega,by show ws.length<=_;omega,fun w hw'=>?_,by show 7*ds.length<=_;omega,fun d hd'=>?_,hg.up (by omega),by omega⟩
 ·obtain⟨b',h1,h2⟩:=hwF.mem w hw';omega
 ·obtain⟨b',h1,h2⟩:=hdF.mem d hd';omega
theorem D0x:Rd enc Tryz.prog W spare held N 24 fun b ts=>∃x l bs,ts=[x]/\IsS eDC x l/\F2 (fun b c=>Bd b c.d) bs l/\bs.sum+1<=b:=
 (B1w (e:=eDC) (R:=fun b c=>Bd b c.d) Tryz.underlying24 (by kernel_rfl) (C6z N)).less (Nat.le_succ N)
theorem E7z {x:T} {v:Value} (h:RdL W [x] [v]):RepT (Old W) W x v:=by
 have:=h.1;simp only[RepL]at this;obtain⟨z,zs,hz,h3,_⟩:=this;simp at hz;rw[hz.1];exact h3
theorem E8a {ts:List T} {us:Array Value} (h:RdL W ts us.toList):RepT (Old W) W (.ag ts) (.agg us):=by
 simp only[RepT];exact⟨us,rfl,h.2,h.1⟩
end
open Go Go.Abs
variable {q : Gl}
section
variable (ver version : ByteArray) (u tl : T) (n : Nat)
def ascR (rs:List RD) (i:Nat):Bool:=(rs.take i).all fun r=>ascD (dvs r.m)
def oRow (version:ByteArray) (p:PV):Row:=.cells 39 [.t (sv version),p]
def HUp (X:Row) (l:List IC) (ns:List Nt):Heap:=[(0,X),(1,bRow ⟨#[]⟩ nilS),(2,oRow version (rowP eIC 3 l))]++(rowH eIC 28 3 l++rowH eNt 49 4 ns)
def SUp (X:Row) (a:Nat×List IC×List Nt):A0b:=
 ⟨[(42,.t (iv (a.1:Int))),(41,.t (iv (n:Int))),(40,.t u),(11,rowP eNt 4 a.2.2),(10,.ptr 2 0),(6,.ptr 1 0),(3,.ptr 0 0),(2,.t tl)],HUp version X a.2.1 a.2.2,5,84⟩
end
theorem bd2 (Φ:A0v) (H:Heap) (nx:Nat) (v:ByteArray):A0e Φ H nx (.build [(0,1),(1,1)] [.string ⟨#[]⟩,.slice none 0 0] [0]) [.t (sv v)]=some (.t (.ag [sv v,nilS]),H,nx):=rfl
theorem bdN (Φ:A0v) (H:Heap) (nx:Nat) (n:Nt):A0e Φ H nx (.build [(0,1),(1,1),(2,1)] [.string ⟨#[]⟩,.int .i64 0,.int .i64 0] [0,1,2]) [.t (sv n.id),.t (iv n.kind),.t (iv n.drop)]=some (.t (.ag (eNt.enc n)),H,nx):=rfl
theorem sB (R:Heap) (b:Nat) (c0 c1:PV) (v:ByteArray) {u:T} {l:List IC} (hu:IsS eIC u l):A0t 2 ((b,.cells 39 [c0,c1])::R) (.ptr b 0) (.t (.ag [sv v,u]))=some ((b,bRow v u)::R):=by
 rcases hu with⟨rfl,_⟩ | rfl<;>simp[A0t,A1m,A4y,look,bRow]
theorem E8b {rs:List RD} {j:Nat} {r:RD} (h:rs[j]?=some r) (ha:ascD (dvs r.m)=false):(rs.all fun r=>ascD (dvs r.m))=false:=by
 rw[List.all_eq_false];exact⟨r,List.mem_of_getElem? h,by simp[ha]⟩
theorem D0y {α:Type} {e:Enc α} {ty b:Nat} {H:Heap} {l:List α} {F:List Nat} (h:A0p e ty H b l) (hb:b∈F):frzP H F (rowP e b l) = .t (A1g e l):=by
 unfold frzP;rw[h.toT];cases l<;>simp[D8h,hb]
theorem F9h (version:ByteArray) (X:Row) (li:List IC) (ln:List Nt):A0p eIC 28 (HUp version X li ln) 3 li:=
 (A0p.head eIC 28 (rowH eNt 49 4 ln) 3 li).imp id fun h=>h
theorem F9i (version:ByteArray) (X:Row) (li:List IC) (ln:List Nt):A0p eNt 49 (HUp version X li ln) 4 ln:=by
 refine(A0p.head' eNt 49 4 ln).imp id fun h=>?_;show Abs.look (rowH eIC 28 3 li++rowH eNt 49 4 ln) 4=_;rw[B6i (by omega)];exact h
theorem E8c (G:A0u) (version:ByteArray) (X:Row) (li:List IC) (ln:List Nt) (n:Nat) :
  Abs.Sub Tryz.prog G 0 ⟨[(11,rowP eNt 4 ln),(10,.ptr 2 0),(6,.ptr 1 0)],HUp version X li ln,5,n⟩ ⟨[(11,.t (A1g eNt ln)),(10,.ptr 2 0),(6,.ptr 1 0)],[(2,bRow version (A1g eIC li)),(1,bRow ⟨#[]⟩ nilS)],3,n⟩:=by
 have f3:=D0y (F:=[3,4]) (F9h version X li ln) (by simp);have f4:=D0y (F:=[3,4]) (F9i version X li ln) (by simp);refine C6t [3,4] (by omega) (fun z hz=>?_) fun z hz=>?_
 ·simp only[List.mem_cons,List.not_mem_nil,or_false]at hz;rcases hz with rfl | rfl
  ·refine⟨by simp,⟨oRow version (rowP eIC 3 li),rfl,?_⟩,by show 2<3;omega,by exact A2f _ [sv version,A1g eIC li]⟩;show Row.cells _ [.t (sv version),frzP _ _ (rowP eIC 3 li)]=_;rw[f3];rfl
  ·exact⟨by simp,⟨_,rfl,rfl⟩,by show 1<3;omega,rfl⟩
 ·simp only[List.mem_cons,List.not_mem_nil,or_false]at hz;rcases hz with rfl | rfl | rfl
  ·exact⟨⟨_,rfl,f4⟩,rfl⟩
  ·exact⟨⟨_,rfl,rfl⟩,rfl⟩
  ·exact⟨⟨_,rfl,rfl⟩,rfl⟩
theorem sBu {H:Heap} {b:Nat} {v v':ByteArray} {u u':T} {l:List IC} (h:Abs.look H b=some (bRow v' u')) (hu:IsS eIC u l):A0t 2 H (.ptr b 0) (.t (.ag [sv v,u]))=some (upd H b (bRow v u)):=by
 rcases hu with⟨rfl,_⟩ | rfl<;>simp[A0t,A1m,A4y,h,bRow]
theorem ldO {H:Heap} {b:Nat} {v:ByteArray} {p:PV} (h:Abs.look H b=some (oRow v p)):A0g false 1 H (.ptr b 1)=some p:=by
 simp[A0g,h,oRow]
theorem sO {H:Heap} {b:Nat} {v:ByteArray} {p p':PV} (h:Abs.look H b=some (oRow v p)) (hp:A1m p'=some [p']):A0t 1 H (.ptr b 1) p'=some (upd H b (oRow v p')):=by
 simp[A0t,hp,h,oRow,A4y]
theorem bsI (id:ByteArray) (tw:T) (st:Int) (td:T) (k:Int) (nm:ByteArray) (f t:Int) (tk:T) (m:Nat):A3l 28 9 [.string ⟨#[]⟩,.slice none 0 0,.int .i64 0,.slice none 0 0,.int .i64 0,.string ⟨#[]⟩,.int .i64 0,.int .i64 0,.slice none 0 0] 1 [(0,.t (.ag [sv id,tw,iv st,td,iv k,sv nm,iv f,iv t,tk]))] m=some (.row m 0 1 9,iRow id tw st td k nm f t tk):=rfl
theorem tsN (n:Nt):A9a 49 3 [.string ⟨#[]⟩,.int .i64 0,.int .i64 0] 1 [(0,.t (.ag (eNt.enc n)))]=some (.t (.sl 1 (eNt.enc n))):=rfl
set_option maxHeartbeats 8000000 in
theorem B3j {ver version:ByteArray} {u tl:T} {l:List IC} {rs:List RD} (hu:IsS eIC u l) (hr:IsS eRD tl rs) (hs:SmU ver l version rs) :
  A0w Tryz.prog (G q) 23 [.ag [sv ver,u],sv version,tl] (· = updT ver u l version rs):=by
 have cd:A1m (.t (.ag [sv ver,u]))=some [.t (sv ver),.t u]:=rfl;have eC:=C6y hu hs.b;have eN:=B2j hs.v;have l1:=hu.len;have l2:=hr.len;have hll:=hs.b.len;have hrl:=hs.len
 obtain⟨P,hP⟩:∃P,P=updT ver u l version rs:=⟨_,rfl⟩
 rw[<-hP];unfold updT at hP
 have hE:updE ver l version rs=if chkT ⟨ver,l.map IC.x⟩≠0 then chkT ⟨ver,l.map IC.x⟩else if A1e false version=false then 1 else if rs.length≠l.length then 17 else if rs.all (fun r=>ascD (dvs r.m))then 0 else 3:=rfl
 have C:Ctx Tryz.prog (G q) _:=(A0y.cons (hChk (q:=q)) (.cons (hNm (q:=q)) (.cons (E7w (q:=q)) (.cons (hUKnd (q:=q)) .nil)))).ctx mixed
 obtain⟨X,hX⟩:∃X,X=bRow ver u:=⟨_,rfl⟩
 have z0:∀R:Heap,LdB ver u ((0,X)::R) 0:=fun R=>ldB (by rw[hX];rfl);have z1:∀(Y:Row) (R:Heap),LdB ver u ((1,Y)::(0,X)::R) 0:=fun Y R=>ldB (by rw[hX];rfl)
 have hpos:∀{c:Int},updE ver l version rs=c->c≠0->P = .tu [.ag [sv ver,u],nilS,iv c]:=fun {c} h hc=>by
  rw[h,if_neg hc]at hP;exact hP
 refine C1g.call rfl ?_;unfold B1i;refine A0a C ?_;simp -implicitDefEqProofs [cd];rw[show Row.cells 39 [.t (sv ver),.t u]=X from hX.symm];have st1:=sB [(0,X)] 1 (.t (.v (.string ⟨#[]⟩))) (.t (.v (.slice none 0 0))) ver hu;have ld1:=ldB (ver:=ver) (u:=u) (H:=[(1,bRow ver u),(0,X)]) (b:=1) rfl;by_cases h1:chkT ⟨ver,l.map IC.x⟩=0
 rotate_left
 ·rw[if_pos h1]at hE;have hP:=hpos hE h1
  have hb:(chkT ⟨ver,l.map IC.x⟩ != 0)=true:=by simpa using h1
  refine A0a C ?_;simp -implicitDefEqProofs [(z1 _ []).a,eC,hb,st1,ld1.a,hP]
 rw[if_neg (fun e=>e h1)]at hE;rw[h1]at eC
 cases h2:A1e false version with
 | false=>
  rw[if_pos h2]at hE;have hP:=hpos hE (by decide);rw[h2]at eN;refine A0a C ?_;simp -implicitDefEqProofs [(z1 _ []).a,eC,eN,st1,ld1.a,hP]
 | true=>
 rw[if_neg (by rw[h2];decide)]at hE;rw[h2]at eN;by_cases h3:rs.length=l.length
 rotate_left
 ·rw[if_pos h3]at hE;have hP:=hpos hE (by decide)
  have hb:((rs.length:Int) !=(l.length:Int))=true:=by simpa using (by omega:¬(rs.length:Int)=(l.length:Int))
  refine A0a C ?_;simp -implicitDefEqProofs [(z1 _ []).a,(z1 _ []).l1,l1,l2,eC,eN,hb,st1,ld1.a,hP]
 rw[if_neg (fun e=>e h3)]at hE
 have hb:((rs.length:Int) !=(l.length:Int))=false:=by rw[h3];simp
 refine A0a C ?_;simp -implicitDefEqProofs [(z1 _ []).a,(z1 _ []).l1,l1,l2,eC,eN,hb];have st2:A0t 2 [(2,.cells 39 [.t (.v (.string ⟨#[]⟩)),.t (.v (.slice none 0 0))]),(1,bRow ⟨#[]⟩ nilS),(0,X)] (.ptr 2 0) (.t (.ag [sv version,nilS]))=some [(2,bRow version nilS),(1,bRow ⟨#[]⟩ nilS),(0,X)]:=rfl;rw[show Row.cells 39 [.t (.v (.string ⟨#[]⟩)),.t (.v (.slice none 0 0))]=bRow ⟨#[]⟩ nilS from rfl];refine A0a C ?_;simp -implicitDefEqProofs [bd2,-evalK_build];have st2:A0t 2 ((2,Row.cells 39 [.t (.v (.string ⟨#[]⟩)),.t (.v (.slice none 0 0))])::[(1,bRow ⟨#[]⟩ nilS),(0,X)]) (.ptr 2 0) (.t (.ag [sv version,nilS]))=some [(2,bRow version nilS),(1,bRow ⟨#[]⟩ nilS),(0,X)]:=rfl;simp -implicitDefEqProofs [st2];refine A0a C ?_;simp -implicitDefEqProofs
 obtain⟨LI,hLI⟩:∃LI,LI=updI l rs:=⟨_,rfl⟩
 obtain⟨LN,hLN⟩:∃LN,LN=updN l rs:=⟨_,rfl⟩
 have hLIl:LI.length=l.length:=by rw[hLI,updI,List.length_zipWith];omega
 have hLNl:LN.length=l.length:=by rw[hLN,updN,List.length_zipWith];omega
 refine A0o (α:=Unit) (fun _=>⟨[(11,rowP eNt 4 LN),(10,.ptr 2 0),(6,.ptr 1 0)],HUp version X LI LN,5,84⟩) (fun _=>P = .tu [.ag [sv version,A1g eIC LI],A1g eNt LN,iv 0]) (fun _=>rfl) ?_ ?_
 ·refine A0a C ?_;have z2:LdB ver u [(2,bRow version nilS),(1,bRow ⟨#[]⟩ nilS),(0,X)] 0:=ldB (by rw[hX];rfl);simp -implicitDefEqProofs [z2.l1,l1];refine A0f ?_;refine A0k (SUp version u tl l.length X) (fun a=>l.length-a.1) (fun a=>a.1<=l.length/\a.2.1=LI.take a.1/\a.2.2=LN.take a.1/\ascR rs a.1=true) (0,[],[]) (fun _=>rfl) ⟨Nat.zero_le _,rfl,rfl,rfl⟩ ?_ rfl ?_
  ·refine B0z (by omega) (fun r hr=>?_) (by simp -implicitDefEqProofs [SUp,under];exact⟨rfl,rfl⟩);simp only[HUp,rowH,List.append_nil,List.mem_cons,List.not_mem_nil,or_false]at hr;rcases hr with rfl | rfl | rfl
   ·exact⟨rfl,by show 0<5;omega,by rw[hX];exact A2f _ [sv ver,u]⟩
   ·exact⟨rfl,by show 1<5;omega,rfl⟩
   ·exact⟨rfl,by show 2<5;omega,rfl⟩
  rintro⟨i,li,ln⟩ ⟨hi,hli,hln,hall⟩;simp only at hi hli hln hall;by_cases hlt:i<l.length
  ·obtain⟨c,hc⟩:∃c,l[i]?=some c:=⟨_,List.getElem?_eq_getElem hlt⟩
   obtain⟨r,hrx⟩:∃r,rs[i]?=some r:=⟨_,List.getElem?_eq_getElem (by omega)⟩
   obtain⟨p9,i1,ld9,_⟩:=B7y hu hc;obtain⟨p1,i2,ldr⟩:=E7x hr hrx;have hsc:=hs.b.items c (List.mem_of_getElem? hc);have hsr:=hs.rd r (List.mem_of_getElem? hrx);have eR:=B3i c r.ok ⟨hsr,hs.decs c (List.mem_of_getElem? hc)⟩;unfold repT at eR;obtain⟨tw,td,k,nm,f,t,tk,ks,ecs,_⟩:=A1a c.ok;have e1:IntKind.i64.wrap ((i:Int)+1)=((i+1:Nat):Int):=A0h (by omega) (by omega);have k0:Abs.look (HUp version X li ln) 0=some X:=rfl;have k1:Abs.look (HUp version X li ln) 1=some (bRow ⟨#[]⟩ nilS):=rfl;have k2:Abs.look (HUp version X li ln) 2=some (oRow version (rowP eIC 3 li)):=rfl
   have r3:A0p eIC 28 (HUp version X li ln) 3 li:=by
    refine(A0p.head eIC 28 (rowH eNt 49 4 ln) 3 li).imp id fun h=>?_;exact h
   have r4:A0p eNt 49 (HUp version X li ln) 4 ln:=by
    refine(A0p.head' eNt 49 4 ln).imp id fun h=>?_;show Abs.look (rowH eIC 28 3 li++rowH eNt 49 4 ln) 4=_;rw[B6i (by omega)];exact h
   unfold SUp
   obtain⟨H0,hH0⟩:∃H0,H0=HUp version X li ln:=⟨_,rfl⟩
   simp only[<-hH0]at k0 k1 k2 r3 r4 ⊢;have s5:=sI9 c.x.id tw c.x.state td k nm f t tk H0 5 [.t (.v (.string ⟨#[]⟩)),.t (.v (.slice none 0 0)),.t (.v (.int .i64 0)),.t (.v (.slice none 0 0)),.t (.v (.int .i64 0)),.t (.v (.string ⟨#[]⟩)),.t (.v (.int .i64 0)),.t (.v (.int .i64 0)),.t (.v (.slice none 0 0))] rfl;rw[ecs]at ld9 eR
   obtain⟨xr,hxr⟩:∃xr,xr=iRow c.x.id tw c.x.state td k nm f t tk:=⟨_,rfl⟩
   rw[<-hxr]at s5;have w5:=ldI c.x.id tw c.x.state td k nm f t tk (H:=(5,xr)::H0) (b:=5) (by rw[hxr];rfl);refine A0a C ?_;simp -implicitDefEqProofs [hlt];refine A3m ?_;refine A0c C ?_;simp -implicitDefEqProofs;refine⟨rfl,?_⟩;refine A3m ?_;refine A0f ?_;refine A0a C ?_;simp -implicitDefEqProofs [i1,ld9,s5]
   cases hasc:ascD (dvs r.m)with
   | false=>
    rw[if_neg (by simp[hasc])]at eR;rw[E8b hrx hasc]at hE;have hP:=hpos hE (by decide);have s6:=sI9 c.x.id tw c.x.state td k nm f t tk ((5,xr)::H0) 6 [.t (.v (.string ⟨#[]⟩)),.t (.v (.slice none 0 0)),.t (.v (.int .i64 0)),.t (.v (.slice none 0 0)),.t (.v (.int .i64 0)),.t (.v (.string ⟨#[]⟩)),.t (.v (.int .i64 0)),.t (.v (.int .i64 0)),.t (.v (.slice none 0 0))] rfl;refine A0a C ?_;simp -implicitDefEqProofs [w5.a,i2,ldr,eR,s6];rw[<-hxr];have sb:=sBu (H:=(6,xr)::(5,xr)::H0) (b:=1) (v:=ver) (u:=u) k1 hu;have lb:=ldB (ver:=ver) (u:=u) (H:=(6,xr)::(5,xr)::upd H0 1 (bRow ver u)) (b:=1) (A2m (x:=bRow ⟨#[]⟩ nilS) k1);have lx:=ldB (ver:=ver) (u:=u) (H:=(6,xr)::(5,xr)::H0) (b:=0) (by rw[<-hX];exact k0);refine A0a C ?_;simp -implicitDefEqProofs [lx.a,sb,lb.a,hP,B0k]
   | true=>
    rw[if_pos hasc]at eR
    obtain⟨y,hy⟩:∃y,y=C6x c r.m:=⟨_,rfl⟩
    have hyc:repC c r.m=y.cs:=by rw[hy];rfl
    have hyx:y.x=repI c.x (dvs r.m):=by rw[hy];rfl
    obtain⟨tw',td',k',nm',f',t',tk',ks',ecs',hyg,_⟩:=A1a y.ok;rw[hyc,ecs']at eR;have s6:=sI9 y.x.id tw' y.x.state td' k' nm' f' t' tk' ((5,xr)::H0) 6 [.t (.v (.string ⟨#[]⟩)),.t (.v (.slice none 0 0)),.t (.v (.int .i64 0)),.t (.v (.slice none 0 0)),.t (.v (.int .i64 0)),.t (.v (.string ⟨#[]⟩)),.t (.v (.int .i64 0)),.t (.v (.int .i64 0)),.t (.v (.slice none 0 0))] rfl
    obtain⟨yr,hyr⟩:∃yr,yr=iRow y.x.id tw' y.x.state td' k' nm' f' t' tk':=⟨_,rfl⟩
    rw[<-hyr]at s6;have w6:=ldI y.x.id tw' y.x.state td' k' nm' f' t' tk' (H:=(6,yr)::(5,xr)::H0) (b:=6) (by rw[hyr];rfl);have lO:=ldO (H:=(6,yr)::(5,xr)::H0) (b:=2) (v:=version) (p:=rowP eIC 3 li) k2;have bs:=bsI y.x.id tw' y.x.state td' k' nm' f' t' tk' 7;rw[<-hyr]at bs
    have hlil:li.length=i:=by rw[hli,List.length_take];omega
    have hlnl:ln.length=i:=by rw[hln,List.length_take];omega
    have hyr':yr = .cells 28 ((eIC.enc y).map .t):=by rw[hyr];show _=Row.cells _ (y.cs.map .t);rw[ecs'];rfl
    have ap:=B5q (e:=eIC) (ty:=28) (by':=136) (nx:=8) (H:=(7,yr)::(6,yr)::(5,xr)::H0) (b:=3) (l:=li) (m:=[y]) (((r3.cons (by omega)).cons (by omega)).cons (by omega)) (A9d (e:=eIC) (ty:=28) (b:=7) y (by rw[hyr'];rfl)) (by simp;omega) (by simp;omega)
    obtain⟨H7,hH7⟩:∃H7,H7=appH eIC 28 ((7,yr)::(6,yr)::(5,xr)::H0) 8 3 li [y]:=⟨_,rfl⟩
    have hn7:appN 8 li [y]=9:=by simp[appN]
    rw[<-hH7,hn7]at ap;have ap:appM 28 9 136 ((7,yr)::(6,yr)::(5,xr)::H0) 8 (rowP eIC 3 li) (.row 7 0 1 9)=some (rowP eIC 8 (li++[y]),H7,9):=ap
    have g7:∀b,b≠8->b≠3->Abs.look H7 b=Abs.look ((7,yr)::(6,yr)::(5,xr)::H0) b:=fun b h1 h2=>by rw[hH7,A8h h1 h2]
    have r8:A0p eIC 28 H7 8 (li++[y]):=by rw[hH7];exact A0p.app
    have r4':A0p eNt 49 H7 4 ln:=r4.imp id fun h=>by rw[g7 4 (by omega) (by omega)];exact h
    have k2':Abs.look H7 2=some (oRow version (rowP eIC 3 li)):=by rw[g7 2 (by omega) (by omega)];exact k2
    have hcell:A1m (rowP eIC 8 (li++[y]))=some [rowP eIC 8 (li++[y])]:=by
     cases hh:li++[y]with
     | nil=>rfl
     | cons _ _=>rfl
    have so:=sO k2' hcell
    obtain⟨H8,hH8⟩:∃H8,H8=upd H7 2 (oRow version (rowP eIC 8 (li++[y]))):=⟨_,rfl⟩
    rw[<-hH8]at so
    have g8:∀b,b≠2->Abs.look H8 b=Abs.look H7 b:=fun b h=>by rw[hH8,A1h,if_neg h]
    have k2'':Abs.look H8 2=some (oRow version (rowP eIC 8 (li++[y]))):=by rw[hH8];exact A2m k2'
    have w5':=ldI c.x.id tw c.x.state td k nm f t tk (H:=H8) (b:=5) (by rw[g8 5 (by omega),g7 5 (by omega) (by omega),hxr];rfl);have w6':=ldI y.x.id tw' y.x.state td' k' nm' f' t' tk' (H:=H8) (b:=6) (by rw[g8 6 (by omega),g7 6 (by omega) (by omega),hyr];rfl)
    have hyn:nodD y.x.gold<=1000000:=by
     rw[hyx,A9l];show nodD (A9z c r.m).d<=_;unfold A9z;split
     ·cases ho:oneC r.m (keep (dvs r.m) [] c.x.decs)with
      | none=>show nodD A2c<=_;decide
      | some g=>
       have h1:=B6h r.m (keep (dvs r.m) [] c.x.decs);rw[ho]at h1;have:=hsr.kid (B1u h1).1;show nodD g.d<=_;omega
     ·show nodD A2c<=_;decide
    have eK:=E7v c y r.ok hsc.gold.2.2 hyn;rw[ecs,ecs',show B0a c.x y.x (dvs r.m)=B0a c.x (repI c.x (dvs r.m)) (dvs r.m)by rw[hyx]]at eK;have bn:=fun Φ H nx=>bdN Φ H nx (ntN c r)
    obtain⟨nt,hnt⟩:∃nt,nt=ntN c r:=⟨_,rfl⟩
    have bn:∀(Φ:A0v) (H:Heap) (nx:Nat),A0e Φ H nx (.build [(0,1),(1,1),(2,1)] [.string ⟨#[]⟩,.int .i64 0,.int .i64 0] [0,1,2]) [.t (sv c.x.id),.t (iv (B0a c.x (repI c.x (dvs r.m)) (dvs r.m))),.t (iv (B1n (dvs r.m) c.x.decs:Nat))]=some (.t (.ag (eNt.enc nt)),H,nx):=fun Φ H nx=>by rw[hnt];exact bn Φ H nx
    have ts:=tsN nt;have ap2:=B5q (e:=eNt) (ty:=49) (by':=32) (nx:=9) (H:=H8) (b:=4) (l:=ln) (m:=[nt]) (r4'.imp id fun h=>by rw[g8 4 (by omega)];exact h) (A7m (t:=.sl 1 (eNt.enc nt)) (.inr rfl)) (by simp;omega) (by simp;omega)
    obtain⟨H9,hH9⟩:∃H9,H9=appH eNt 49 H8 9 4 ln [nt]:=⟨_,rfl⟩
    have hn9:appN 9 ln [nt]=10:=by simp[appN]
    rw[<-hH9,hn9]at ap2;have ap2:appM 49 3 32 H8 9 (rowP eNt 4 ln) (.t (.sl 1 (eNt.enc nt)))=some (rowP eNt 9 (ln++[nt]),H9,10):=ap2
    have g9:∀b,b≠9->b≠4->Abs.look H9 b=Abs.look H8 b:=fun b h1 h2=>by rw[hH9,A8h h1 h2]
    have r8':A0p eIC 28 H9 8 (li++[y]):=r8.imp id fun h=>by rw[g9 8 (by omega) (by omega),g8 8 (by omega)];exact h
    have r9:A0p eNt 49 H9 9 (ln++[nt]):=by rw[hH9];exact A0p.app
    have q0:Abs.look H9 0=some X:=by rw[g9 0 (by omega) (by omega),g8 0 (by omega),g7 0 (by omega) (by omega)];exact k0
    have q1:Abs.look H9 1=some (bRow ⟨#[]⟩ nilS):=by rw[g9 1 (by omega) (by omega),g8 1 (by omega),g7 1 (by omega) (by omega)];exact k1
    have q2:Abs.look H9 2=some (oRow version (rowP eIC 8 (li++[y]))):=by rw[g9 2 (by omega) (by omega)];exact k2''
    refine A0a C ?_;simp -implicitDefEqProofs [w5.a,i2,ldr,eR,s6];refine A0a C ?_;simp -implicitDefEqProofs;refine A0a C ?_;simp -implicitDefEqProofs [lO,w6.a,bs,ap,so];refine A0c C ?_;simp -implicitDefEqProofs [w5'.l0,w5'.a,w6'.a,i2,ldr,eK,bn,ts,ap2,-evalK_build];refine⟨rfl,?_⟩;refine A0c C ?_;simp -implicitDefEqProofs [e1]
    have hzi:li++[y]=LI.take (i+1):=by rw[hli,hLI,hy];exact(B8u _ hc hrx).symm
    have hzn:ln++[nt]=LN.take (i+1):=by rw[hln,hLN,hnt];exact(B8u _ hc hrx).symm
    refine Abs.Next.mk (i+1,li++[y],ln++[nt]) ⟨⟨by show i+1<=_;omega,hzi,hzn,?_⟩,by show l.length-(i+1)<l.length-i;omega⟩ ?_
    ·show ascR rs (i+1)=true;unfold ascR at hall ⊢;rw[List.take_add_one,hrx,List.all_append,hall];simp[hasc]
    ·refine D0w (k:=8) (k':=9) r8' r9 (by omega) (by omega) (by omega) (by omega) (by omega) (by omega) (fun z hz=>?_) (by simp -implicitDefEqProofs [A2b,A1j,ren,under]);simp only[List.mem_cons,List.not_mem_nil,or_false]at hz;rcases hz with rfl | rfl | rfl
     ·exact⟨by rw[q0,hX];rfl,by show 0<5;omega,by show 0≠3;omega,by show 0≠4;omega,by show 0≠8;omega,by show 0≠9;omega,by rw[hX];exact A2f _ [sv ver,u]⟩
     ·exact⟨by rw[q1];rfl,by show 1<5;omega,by show 1≠3;omega,by show 1≠4;omega,by show 1≠8;omega,by show 1≠9;omega,rfl⟩
     ·refine⟨?_,by show 2<5;omega,by show 2≠3;omega,by show 2≠4;omega,by show 2≠8;omega,by show 2≠9;omega,?_⟩
      ·rw[q2];show some (oRow version _)=some (Row.cells _ [.t (sv version),ren _ (rowP eIC 3 (li++[y]))]);rw[A2b];rfl
      ·show(under 5 (.t (sv version))&&(under 5 (rowP eIC 3 (li++[y]))&&true))=true;rw[A1j _ _ _ _ (by omega)];rfl
  ·have hil:i=l.length:=by omega
   subst hil;unfold ascR at hall;rw[List.take_of_length_le (by omega)]at hli hln hall;subst hli;subst hln;rw[if_pos hall]at hE;rw[if_pos hE,<-hLI,<-hLN]at hP;unfold SUp;refine A0c C ?_;simp -implicitDefEqProofs [hlt];exact Abs.Next.mk () hP (A0d (by simp -implicitDefEqProofs))
 ·rintro _ hP;refine MC.sub (E8c _ version X LI LN 84) rfl ?_;have ltr:=ldB (ver:=version) (u:=A1g eIC LI) (H:=[(2,bRow version (A1g eIC LI)),(1,bRow ⟨#[]⟩ nilS)]) (b:=2) rfl;have sb:=sBu (H:=[(2,bRow version (A1g eIC LI)),(1,bRow ⟨#[]⟩ nilS)]) (b:=1) (v:=version) (u:=A1g eIC LI) rfl (IsS.tree eIC LI);have lb:=ldB (ver:=version) (u:=A1g eIC LI) (H:=[(2,bRow version (A1g eIC LI)),(1,bRow version (A1g eIC LI))]) (b:=1) rfl;refine A0c C ?_;simp -implicitDefEqProofs [ltr.a,sb,lb.a,hP]
theorem E8d {d:Dv} (h:Wd d):(prtD d).length<=2100000000000:=by
 have:=C5v d h.1 h.2.1;have:=h.2.2;omega
set_option maxHeartbeats 2000000 in
theorem E1c {x:It} {cs:List T} (h:IsIt x cs) (hw:x.words.length<=2000000) (hWd:Wd x.gold):A0w Tryz.prog (G q) 110 [.ag cs] (· = iv (chkG x)):=by
 obtain⟨tw,td,k,nm,f,t,tk,ks,rfl,hg,hk,hws,hd,hgD⟩:=A1a h;obtain⟨id,ws,st,ds,gold⟩:=x;simp only at hg hws hd hgD hw hWd;have cd:=A3c id tw st td k nm f t tk;have lw:=hws.len
 obtain⟨X,hX⟩:∃X,X=iRow id tw st td k nm f t tk:=⟨_,rfl⟩
 have L0:∀R:Heap,LdI id tw st td k nm f t tk ((0,X)::R) 0:=fun R=>ldI _ _ _ _ _ _ _ _ _ (by rw[hX];rfl);have L1:∀(Y:Row) (R:Heap),LdI id tw st td k nm f t tk ((1,Y)::(0,X)::R) 0:=fun Y R=>ldI _ _ _ _ _ _ _ _ _ (by rw[hX];rfl);have z:=L0 [];have C:Ctx Tryz.prog (G q) _:=(A0y.cons (D2w (q:=q)) (.cons (hRPrt (q:=q)) (.cons (hRPar (q:=q)) .nil))).ctx mixed;have eZ:=A9r hgD (IsD.enc A2c) hWd.2.2 (by decide);have eP:=F4h hgD hWd;have eA:=F4p (E8d hWd);have bz:∀(Φ:A0v) (H:Heap) (nx:Nat),A0e Φ H nx (.build [(0,1),(1,1),(2,1),(3,1),(4,1)] [.int .i64 0,.string ⟨#[]⟩,.int .i64 0,.int .i64 0,.slice none 0 0] []) []=some (.t (.ag (encD A2c)),H,nx):=fun _ _ _=>bdZ5
 obtain⟨R,hR⟩:∃R,R=chkG ⟨id,ws,st,ds,gold⟩:=⟨_,rfl⟩
 rw[<-hR];unfold chkG at hR;simp only[hg,Dv.frm,Dv.to]at hR;rw[<-hg]at hR
 have hsp:C5k gold=(match parD (prtD gold)with | .ok x=>decide (cmpD x gold=0) | .error _=>false):=by
  unfold C5k;cases parD (prtD gold)<;>rfl
 refine C1d.call rfl ?_;unfold B1g;refine A0a C ?_;simp -implicitDefEqProofs [cd];rw[show Row.cells 28 [.t (sv id),.t tw,.t (iv st),.t td,.t (iv k),.t (sv nm),.t (iv f),.t (iv t),.t tk]=X from hX.symm];by_cases s1:st=1
 rotate_left
 ·rw[if_neg s1]at hR
  have b1:(st != 1)=true:=by simpa using s1
  by_cases s4:cmpD gold A2c=0
  ·rw[if_pos s4]at hR;refine A0a C ?_;simp -implicitDefEqProofs [z.l2,b1,z.g,bz,eZ,s4,hR]
  ·rw[if_neg s4]at hR
   have hb:(cmpD gold A2c != 0)=true:=by simpa using s4
   refine A0a C ?_;simp -implicitDefEqProofs [z.l2,b1,z.g,bz,eZ,hb,hR]
 rw[if_pos s1]at hR;subst s1;refine A0a C ?_;simp -implicitDefEqProofs [z.l2];by_cases s2:f=0
 rotate_left
 ·rw[if_pos (.inl s2)]at hR
  have hb:(f != 0)=true:=by simpa using s2
  refine A0a C ?_;simp -implicitDefEqProofs [z.l6,hb,hR]
 by_cases s3:t=(ws.length:Int)
 rotate_left
 ·rw[if_pos (.inr s3)]at hR
  have hb:(t !=(ws.length:Int))=true:=by simpa using s3
  refine A0a C ?_;simp -implicitDefEqProofs [z.l6,z.l7,z.l1,lw,s2,hb,hR]
 rw[if_neg (by omega)]at hR;subst s2;subst s3;refine A0a C ?_;simp -implicitDefEqProofs [z.l6,z.l7,z.l1,lw]
 obtain⟨P,hP⟩:∃P,P=prtD gold:=⟨_,rfl⟩
 rw[<-hP]at eP eA hsp
 cases hpar:parD P with
 | error e=>
  have he:=E6u hpar
  have hb:(e != 0)=true:=by simpa using he
  have ep:parT P = .tu [.ag (encD A2c),iv e]:=by unfold parT;rw[hpar]
  rw[ep]at eA;rw[hsp,hpar,if_neg (by simp)]at hR;have st:A0t 5 (zD5 1::[(0,X)]) (.ptr 1 0) (.t (.ag (encD A2c)))=some ((1,.cells 26 ((encD A2c).map .t))::[(0,X)]):=A7d 1 [(0,X)] A2c (IsD.enc A2c);refine A0a C ?_;simp -implicitDefEqProofs [z.g,eP,eA,st];refine A0c C ?_;simp -implicitDefEqProofs [hb,hR]
 | ok x=>
  have hx:=D6z hpar
  have ep:parT P = .tu [.ag (encD x),iv 0]:=by unfold parT;rw[hpar]
  rw[ep]at eA;rw[hsp,hpar]at hR;have st:A0t 5 (zD5 1::[(0,X)]) (.ptr 1 0) (.t (.ag (encD x)))=some ((1,.cells 26 ((encD x).map .t))::[(0,X)]):=A7d 1 [(0,X)] x (IsD.enc x);have ld2:A0g true 5 ((1,.cells 26 ((encD x).map .t))::[(0,X)]) (.ptr 1 0)=some (.t (.ag (encD x))):=A9i 1 [(0,X)] x (IsD.enc x);have y:=L1 (.cells 26 ((encD x).map .t)) [];have eC:=A9r (IsD.enc x) hgD (by omega) hWd.2.2
  obtain⟨Y,hY⟩:∃Y,Y=Row.cells 26 ((encD x).map .t):=⟨_,rfl⟩
  rw[<-hY]at st ld2 y;refine A0a C ?_;simp -implicitDefEqProofs [z.g,eP,eA,st];by_cases h0:cmpD x gold=0
  ·rw[h0]at eC;simp only[h0,decide_true,if_true]at hR;refine A0c C ?_;simp -implicitDefEqProofs [ld2,y.g,eC,hR]
  ·have hb:(cmpD x gold != 0)=true:=by simpa using h0
   simp only[h0,decide_false,Bool.false_eq_true,if_false]at hR;refine A0c C ?_;simp -implicitDefEqProofs [ld2,y.g,eC,hb,hR]
theorem C1m {P:Program} {G:A0u} {F:Nat} {args:List T} {r:T} (h:A0w P G F args (· = r)):∃t1:List T->Option T,t1 args=some r/\GOK P G F t1:=by
 refine⟨fun ts=>open Classical in if ts=args then some r else none,if_pos rfl,fun ts r' e=>?_⟩;simp only at e;split at e
 ·rename_i hh;injection e with e;subst hh;subst e;exact h
 ·cases e
def decE (n:Int) (ds:List Dc) (i:Nat) (d:Dc):Int:=if chkP d.p n≠0 then chkP d.p n else if(ds.take i).any (fun y=>decide (y.p=d.p))then 4 else 0
theorem F1w {n:Int} {ds:List Dc} {i:Nat} {d:Dc} (h:ds[i]?=some d):A7y n (ds.take i) (ds.drop i)=if decE n ds i d≠0 then decE n ds i d else A7y n (ds.take (i+1)) (ds.drop (i+1)):=by
 have hlt:i<ds.length:=(List.getElem?_eq_some_iff.1 h).1
 have htk:ds.take i++[d]=ds.take (i+1):=by rw[List.take_add_one,h];rfl
 rw[List.drop_eq_getElem_cons hlt,(List.getElem?_eq_some_iff.1 h).2,A7y,htk];unfold decE;by_cases h1:chkP d.p n=0
 ·simp only[h1,ne_eq,not_true_eq_false,if_false]
  cases h2:(ds.take i).any (fun y=>decide (y.p=d.p))with
  | true=>rw[if_pos rfl,if_pos rfl,if_pos (by decide)]
  | false=>rw[if_neg (by decide),if_neg (by decide)]
 ·rw[if_pos h1,if_pos h1,if_pos h1]
def SDe (X:Row) (p:Pr) (i j:Nat):A0b:=⟨[(6,.t (iv (j:Int))),(5,.ptr 1 0),(2,.ptr 0 0),(1,.t (iv (i:Int)))],[(1,pRow p),(0,X)],2,70⟩
theorem D4d:A1e false ⟨#[]⟩=false:=by rfl
set_option maxHeartbeats 4000000 in
theorem E8e {x:It} {cs:List T} (h:IsIt x cs) (hs:SmI x) {i:Nat} {d:Dc} (hdx:x.decs[i]?=some d):A0w Tryz.prog (G q) 109 [.ag cs,iv (i:Int)] (· = iv (decE x.words.length x.decs i d)):=by
 obtain⟨tw,td,k,nm,f,t,tk,ks,rfl,hg,hk,hw,hd,hgD⟩:=A1a h;obtain⟨id,ws,st,ds,gold⟩:=x;have hdl:=hs.len;have hdn:=hs.decs d (List.mem_of_getElem? hdx);simp only at hg hw hd hgD hdx hdl;have hil:i<ds.length:=(List.getElem?_eq_some_iff.1 hdx).1;have cd:=A3c id tw st td k nm f t tk;have lw:=hw.len;obtain⟨pp,i1,_,ld4,_⟩:=B7u hd hdx;have eN:=B2j hdn
 obtain⟨X,hX⟩:∃X,X=iRow id tw st td k nm f t tk:=⟨_,rfl⟩
 have hXc:∃(ty:Nat) (cs:List T),X = .cells ty (cs.map .t):=⟨_,[sv id,tw,iv st,td,iv k,sv nm,iv f,iv t,tk],hX⟩
 have L0:∀R:Heap,LdI id tw st td k nm f t tk ((0,X)::R) 0:=fun R=>ldI _ _ _ _ _ _ _ _ _ (by rw[hX];rfl);have L1:∀(Y:Row) (R:Heap),LdI id tw st td k nm f t tk ((1,Y)::(0,X)::R) 0:=fun Y R=>ldI _ _ _ _ _ _ _ _ _ (by rw[hX];rfl);have z:=L0 [];have y:=L1 (pRow d.p) [];have C:Ctx Tryz.prog (G q) _:=(A0y.cons (hRNm (q:=q)) .nil).ctx mixed
 obtain⟨R,hR⟩:∃R,R=decE (ws.length:Int) ds i d:=⟨_,rfl⟩
 show A0w _ _ _ _ (· = iv (decE (ws.length:Int) ds i d));rw[<-hR];unfold decE at hR;have st4:A0t 4 [(1,Row.cells 59 [.t (.v (.int .i64 0)),.t (.v (.string ⟨#[]⟩)),.t (.v (.int .i64 0)),.t (.v (.int .i64 0))]),(0,X)] (.ptr 1 0) (.t (.ag (ePr.enc d.p)))=some [(1,pRow d.p),(0,X)]:=rfl;have p0:A0g false 1 [(1,pRow d.p),(0,X)] (.ptr 1 0)=some (.t (iv d.p.kind)):=rfl;have p1:A0g false 1 [(1,pRow d.p),(0,X)] (.ptr 1 1)=some (.t (sv d.p.name)):=rfl;have p2:A0g false 1 [(1,pRow d.p),(0,X)] (.ptr 1 2)=some (.t (iv d.p.frm)):=rfl;have p3:A0g false 1 [(1,pRow d.p),(0,X)] (.ptr 1 3)=some (.t (iv d.p.to)):=rfl;have pa:A0g true 4 [(1,pRow d.p),(0,X)] (.ptr 1 0)=some (.t (.ag (ePr.enc d.p))):=rfl;refine B3f.call rfl ?_;unfold A7g;refine A0a C ?_;simp -implicitDefEqProofs [cd];rw[show Row.cells 28 [.t (sv id),.t tw,.t (iv st),.t td,.t (iv k),.t (sv nm),.t (iv f),.t (iv t),.t tk]=X from hX.symm];simp only[List.drop_zero]at ld4;refine A0a C ?_;simp -implicitDefEqProofs [z.l3,i1,ld4,st4];have hch:chkP d.p (ws.length:Int)=(if d.p.kind<0\/3<d.p.kind then 14 else if(d.p.kind=3/\d.p.name≠⟨#[]⟩)\/(d.p.kind≠3/\A1e false d.p.name=false)then 1 else if d.p.frm<0\/d.p.to<=d.p.frm\/(ws.length:Int)<d.p.to then 2 else 0):=rfl
 have he:d.p.name≠⟨#[]⟩->d.p.name.toList.isEmpty=false:=fun h4=>by
  cases h:d.p.name.toList with
  | nil=>exact absurd (toList_inj (b:=⟨#[]⟩) (by rw[h,A5m])) h4
  | cons _ _=>rfl
 have bad:∀{e:Int},chkP d.p (ws.length:Int)=e->e≠0->R=e:=fun {e} h1 h2=>by rw[h1,if_pos h2]at hR;exact hR
 by_cases h1:d.p.kind<0
 ·rw[if_pos (.inl h1)]at hch;have hR:=bad hch (by decide);refine A0a C ?_;simp -implicitDefEqProofs [p0,h1,hR]
 by_cases h2:3<d.p.kind
 ·rw[if_pos (.inr h2)]at hch;have hR:=bad hch (by decide);refine A0a C ?_;simp -implicitDefEqProofs [p0,h1,h2,hR]
 rw[if_neg (fun h=>h.elim h1 h2)]at hch;refine A0a C ?_;simp -implicitDefEqProofs [p0,h1,h2];refine A0o (α:=Unit) (fun _=>⟨[(5,.ptr 1 0),(2,.ptr 0 0),(1,.t (iv (i:Int)))],[(1,pRow d.p),(0,X)],2,70⟩) (fun _=>chkP d.p (ws.length:Int)=(if d.p.frm<0\/d.p.to<=d.p.frm\/(ws.length:Int)<d.p.to then 2 else 0)) (fun _=>rfl) ?_ ?_
 ·by_cases h3:d.p.kind=3
  ·by_cases h4:d.p.name=⟨#[]⟩
   ·rw[if_neg (fun h=>h.elim (fun h=>h.2 h4) (fun h=>h.1 h3))]at hch
    have p0:A0g false 1 [(1,pRow d.p),(0,X)] (.ptr 1 0)=some (.t (iv 3)):=by rw[p0,h3]
    have p1:A0g false 1 [(1,pRow d.p),(0,X)] (.ptr 1 1)=some (.t (sv ⟨#[]⟩)):=by rw[p1,h4]
    refine A0c C ?_;simp -implicitDefEqProofs [p0,p1,A3g];refine Abs.Next.mk () hch ?_;exact A0d (by simp -implicitDefEqProofs)
   ·rw[if_pos (.inl ⟨h3,h4⟩)]at hch;have hR:=bad hch (by decide)
    have p0:A0g false 1 [(1,pRow d.p),(0,X)] (.ptr 1 0)=some (.t (iv 3)):=by rw[p0,h3]
    have b4:d.p.name.toList.isEmpty=false:=he h4;refine A0c C ?_;simp -implicitDefEqProofs [p0,p1,b4,hR]
  ·have b3:(d.p.kind==3)=false:=by simpa using h3
   have c3:(d.p.kind != 3)=true:=by simpa using h3
   by_cases h4:d.p.name=⟨#[]⟩
   ·rw[if_pos (.inr ⟨h3,by rw[h4];exact D4d⟩)]at hch;have hR:=bad hch (by decide)
    have p1:A0g false 1 [(1,pRow d.p),(0,X)] (.ptr 1 1)=some (.t (sv ⟨#[]⟩)):=by rw[p1,h4]
    refine A0c C ?_;simp -implicitDefEqProofs [p0,p1,b3,A3g,hR]
   ·have b4:d.p.name.toList.isEmpty=false:=he h4
    cases hn:A1e false d.p.name with
    | false=>
     rw[if_pos (.inr ⟨h3,hn⟩)]at hch;have hR:=bad hch (by decide);rw[hn]at eN;refine A0c C ?_;simp -implicitDefEqProofs [p0,p1,b3,c3,b4,eN,hR]
    | true=>
     rw[if_neg (fun h=>h.elim (fun h=>h3 h.1) (fun h=>by rw[hn]at h;cases h.2))]at hch;rw[hn]at eN;refine A0c C ?_;simp -implicitDefEqProofs [p0,p1,b3,c3,b4,eN];refine Abs.Next.mk () hch ?_;exact A0d (by simp -implicitDefEqProofs)
 rintro _ hch;by_cases g1:d.p.frm<0
 ·rw[if_pos (.inl g1)]at hch;have hR:=bad hch (by decide);refine A0a C ?_;simp -implicitDefEqProofs [p2,g1,hR]
 by_cases g2:d.p.to<=d.p.frm
 ·rw[if_pos (.inr (.inl g2))]at hch;have hR:=bad hch (by decide);refine A0a C ?_;simp -implicitDefEqProofs [p2,p3,g1,g2,hR]
 by_cases g3:(ws.length:Int)<d.p.to
 ·rw[if_pos (.inr (.inr g3))]at hch;have hR:=bad hch (by decide);refine A0a C ?_;simp -implicitDefEqProofs [p2,p3,g1,g2,y.l1,lw,g3,hR]
 rw[if_neg (fun x=>x.elim g1 fun x=>x.elim g2 g3)]at hch;rw[if_neg (fun e=>e hch)]at hR;refine A0a C ?_;simp -implicitDefEqProofs [p2,p3,g1,g2,y.l1,lw,g3];refine A0o (α:=Unit) (fun _=>⟨[],[],0,70⟩) (fun _=>R=0) (fun _=>rfl) ?_ ?_
 ·refine A0a C ?_;simp -implicitDefEqProofs;refine A0f ?_;refine A0k (SDe X d.p i) (fun j=>i-j) (fun j=>j<=i/\∀y:Dc,y∈ds.take j->¬y.p=d.p) 0 (fun _=>rfl) ⟨Nat.zero_le _,by simp⟩ ?_ rfl ?_
  ·refine A0d ?_;simp -implicitDefEqProofs [SDe]
  rintro j ⟨hj,hno⟩;by_cases hlt:j<i
  ·obtain⟨y0,hy⟩:∃y,ds[j]?=some y:=⟨_,List.getElem?_eq_getElem (by omega)⟩
   obtain⟨pj,ij,_,lj,_⟩:=B7u hd hy;simp only[List.drop_zero]at lj;have eq:=C2b y0.p d.p;have w1:IntKind.i64.wrap ((j:Int)+1)=((j+1:Nat):Int):=A0h (by omega) (by omega);by_cases hyd:y0.p=d.p
   ·have hany:(ds.take i).any (fun y=>decide (y.p=d.p))=true:=List.any_eq_true.2 ⟨y0,List.mem_of_getElem? (i:=j) (by rw[List.getElem?_take,if_pos hlt];exact hy),decide_eq_true hyd⟩;rw[if_pos hany]at hR;rw[decide_eq_true hyd]at eq;refine A0c C ?_;simp -implicitDefEqProofs [SDe,hlt,y.l3,ij,lj,pa,eq,hR]
   ·rw[decide_eq_false hyd]at eq;refine A0c C ?_;simp -implicitDefEqProofs [SDe,hlt,y.l3,ij,lj,pa,eq,w1];refine Abs.Next.mk (j+1) ⟨⟨by omega,?_⟩,by omega⟩ ?_
    ·rw[List.take_add_one,hy];intro x hx;rcases List.mem_append.1 hx with hx | hx
     ·exact hno x hx
     ·rw[List.mem_singleton.1 hx];exact hyd
    ·exact A0d (by simp -implicitDefEqProofs)
  ·have hji:j=i:=by omega
   subst hji;have hany:(ds.take j).any (fun y=>decide (y.p=d.p))=false:=List.any_eq_false.2 fun x hx e=>hno x hx (of_decide_eq_true e);rw[if_neg (by rw[hany];decide)]at hR;refine A0c C ?_;simp -implicitDefEqProofs [SDe,hlt];exact Abs.Next.mk () hR (A2x (by omega) fun q hq=>by cases hq)
 rintro _ hR0;refine A0c C ?_;simp -implicitDefEqProofs [hR0]
noncomputable def gGE:List T->Option T:=g1 tIt fun c=>open Classical in if SmI c.x then some (iv (chkG c.x))else none
theorem hGE:GOK Tryz.prog (G q) 110 gGE:=A4c fun a c r ha hr=>by
 split at hr
 ·rename_i h;injection hr with hr;subst hr;have ha:a = .ag c.cs:=ha;subst ha;exact E1c c.ok h.words.1 h.gold
 ·cases hr
theorem F9j (c:IC) (h:SmI c.x):gGE [.ag c.cs]=some (iv (chkG c.x)):=by
 show g1 _ _ _=_;rw[A5b (τ:=tIt) (x:=c) rfl,if_pos h]
def SRs (X:Row) (j:Nat):A0b:=⟨[(4,.t (iv (j:Int))),(1,.ptr 0 0)],[(0,X)],1,38⟩
set_option maxHeartbeats 4000000 in
theorem E8f (c:IC) (hs:SmI c.x):A0w Tryz.prog (G q) 62 [.ag c.cs] (· = iv (chkR c.x)):=by
 have eG:=F9j c hs;obtain⟨tw,td,k,nm,f,t,tk,ks,ecs,hg,hk,hw,hd,hgD⟩:=A1a c.ok;have eD:∀{i:Nat} {d:Dc},c.x.decs[i]?=some d->A0w Tryz.prog (G q) 109 [.ag c.cs,iv (i:Int)] (· = iv (decE c.x.words.length c.x.decs i d)):=fun h=>E8e c.ok hs h;have hW:=hs.words;have hdl:=hs.len;have ok:=c.ok;have hR0:chkR c.x=(if chkW c.x.words≠0 then chkW c.x.words else if c.x.state<0\/2<c.x.state then 14 else if 256<c.x.decs.length then 7 else if A7y c.x.words.length [] c.x.decs≠0 then A7y c.x.words.length [] c.x.decs else chkG c.x):=rfl
 obtain⟨R,hRR⟩:∃R,R=chkR c.x:=⟨_,rfl⟩
 rw[<-hRR];rw[<-hRR]at hR0
 obtain⟨Gx,hGx⟩:∃Gx,Gx=chkG c.x:=⟨_,rfl⟩
 rw[<-hGx]at hR0 eG;rw[ecs]at eG ⊢;simp only[ecs]at eD;generalize c.x.id=id at *;generalize c.x.state=st at *
 obtain⟨ws,hws⟩:∃ws,ws=c.x.words:=⟨_,rfl⟩
 obtain⟨ds,hds⟩:∃ds,ds=c.x.decs:=⟨_,rfl⟩
 simp only[<-hws,<-hds]at hw hd hW hdl hR0 eD;have cd:=A3c id tw st td k nm f t tk;have ldd:=hd.len;have eT:=E6s hw hW
 obtain⟨X,hX⟩:∃X,X=iRow id tw st td k nm f t tk:=⟨_,rfl⟩
 have hXc:∃(ty:Nat) (cs:List T),X = .cells ty (cs.map .t):=⟨_,[sv id,tw,iv st,td,iv k,sv nm,iv f,iv t,tk],hX⟩
 have z:=ldI id tw st td k nm f t tk (H:=[(0,X)]) (b:=0) (by rw[hX];rfl);have C:Ctx Tryz.prog (G q) _:=(A0y.cons (hRTok (q:=q)) (.cons (hGE (q:=q)) .nil)).ctx mixed;refine E0n.call rfl ?_;unfold C4f;refine A0a C ?_;simp -implicitDefEqProofs [cd];rw[show Row.cells 28 [.t (sv id),.t tw,.t (iv st),.t td,.t (iv k),.t (sv nm),.t (iv f),.t (iv t),.t tk]=X from hX.symm];refine A0a C ?_;simp -implicitDefEqProofs [z.l1,eT];by_cases h1:chkW ws=0
 rotate_left
 ·rw[if_pos h1]at hR0
  have hb:(R != 0)=true:=by rw[hR0];simpa using h1
  refine A0a C ?_;simp -implicitDefEqProofs [<-hR0,hb]
 rw[if_neg (fun e=>e h1)]at hR0;refine A0a C ?_;simp -implicitDefEqProofs [h1];by_cases h2:st<0
 ·rw[if_pos (.inl h2)]at hR0;refine A0a C ?_;simp -implicitDefEqProofs [z.l2,h2,hR0]
 by_cases h3:2<st
 ·rw[if_pos (.inr h3)]at hR0;refine A0a C ?_;simp -implicitDefEqProofs [z.l2,h2,h3,hR0]
 rw[if_neg (fun e=>e.elim h2 h3)]at hR0;refine A0a C ?_;simp -implicitDefEqProofs [z.l2,h2,h3];by_cases h4:256<ds.length
 ·rw[if_pos h4]at hR0
  have hc:decide ((256:Int)<(ds.length:Int))=true:=by simpa using (by omega:(256:Int)<(ds.length:Int))
  refine A0a C ?_;simp -implicitDefEqProofs [z.l3,ldd,hc,hR0]
 rw[if_neg h4]at hR0
 have hc:decide ((256:Int)<(ds.length:Int))=false:=by simpa using (by omega:(ds.length:Int)<=256)
 refine A0a C ?_;simp -implicitDefEqProofs [z.l3,ldd,hc];refine A0o (α:=Unit) (fun _=>⟨[(1,.ptr 0 0)],[(0,X)],1,38⟩) (fun _=>R=Gx) (fun _=>rfl) ?_ ?_
 ·refine A0a C ?_;simp -implicitDefEqProofs;refine A0f ?_;refine A0k (SRs X) (fun j=>ds.length-j) (fun j=>j<=ds.length/\(if A7y ws.length (ds.take j) (ds.drop j)≠0 then A7y ws.length (ds.take j) (ds.drop j)else Gx)=R) 0 (fun _=>rfl) ⟨Nat.zero_le _,hR0.symm⟩ ?_ rfl ?_
  ·refine A0d ?_;simp -implicitDefEqProofs [SRs]
  rintro j ⟨hj,heq⟩;by_cases hlt:j<ds.length
  ·obtain⟨d,hdx⟩:∃d,ds[j]?=some d:=⟨_,List.getElem?_eq_getElem hlt⟩
   obtain⟨t1,o1,ok1⟩:=C1m (eD hdx);have C1:Ctx Tryz.prog (G q) _:=(A0y.cons ok1 .nil).ctx mixed;have e1:IntKind.i64.wrap ((j:Int)+1)=((j+1:Nat):Int):=A0h (by omega) (by omega);have hck:=F1w (n:=(ws.length:Int)) hdx;refine A0c C1 ?_;by_cases g1:decE ws.length ds j d=0
   ·rw[if_neg (fun e=>e g1)]at hck;rw[hck]at heq;rw[g1]at o1;simp -implicitDefEqProofs [SRs,z.l3,ldd,hlt,z.a,o1,e1];refine Abs.Next.mk (j+1) ⟨⟨by omega,by simpa using heq⟩,by omega⟩ ?_;exact A0d (by simp -implicitDefEqProofs)
   ·rw[if_pos g1]at hck;rw[hck,if_pos g1]at heq
    have hb:(R != 0)=true:=by rw[<-heq];simpa using g1
    rw[heq]at o1;simp -implicitDefEqProofs [SRs,z.l3,ldd,hlt,z.a,o1,hb]
  ·rw[List.drop_of_length_le (by omega),A7y,if_neg (fun e=>e rfl)]at heq;refine A0c C ?_;simp -implicitDefEqProofs [SRs,z.l3,ldd,hlt];exact Abs.Next.mk () heq.symm (A0d (by simp -implicitDefEqProofs))
 rintro _ hRG;refine A0c C ?_;simp -implicitDefEqProofs [z.a,eG,hRG]
noncomputable def gRst:List T->Option T:=g1 tIt fun c=>open Classical in if SmI c.x then some (iv (chkR c.x))else none
theorem hRst:GOK Tryz.prog (G q) 62 gRst:=A4c fun a c r ha hr=>by
 split at hr
 ·rename_i h;injection hr with hr;subst hr;have ha:a = .ag c.cs:=ha;subst ha;exact E8f c h
 ·cases hr
theorem F5y (c:IC) (h:SmI c.x):gRst [.ag c.cs]=some (iv (chkR c.x)):=by
 show g1 _ _ _=_;rw[A5b (τ:=tIt) (x:=c) rfl,if_pos h]
def SCr (X:Row) (j:Nat):A0b:=⟨[(3,.t (iv (j:Int))),(1,.ptr 0 0)],[(0,X)],1,55⟩
set_option maxHeartbeats 2000000 in
theorem D4e {ver:ByteArray} {u:T} {l:List IC} (hu:IsS eIC u l) (hs:SmB ver l):A0w Tryz.prog (G q) 27 [.ag [sv ver,u]] (· = iv (chkT ⟨ver,l.map IC.x⟩)):=by
 have cd:A1m (.t (.ag [sv ver,u]))=some [.t (sv ver),.t u]:=rfl;have lu:=hu.len;have eV:=B2j hs.ver;have hll:=hs.len
 obtain⟨X,hX⟩:∃X,X=bRow ver u:=⟨_,rfl⟩
 have hXc:∃(ty:Nat) (cs:List T),X = .cells ty (cs.map .t):=⟨_,[sv ver,u],hX⟩
 have L0:∀R:Heap,LdB ver u ((0,X)::R) 0:=fun R=>ldB (by rw[hX];rfl);have L1:∀(Y:Row) (R:Heap),LdB ver u ((1,Y)::(0,X)::R) 0:=fun Y R=>ldB (by rw[hX];rfl);have C:Ctx Tryz.prog (G q) _:=(A0y.cons (hRNm (q:=q)) (.cons (hRst (q:=q)) .nil)).ctx mixed;refine D3r.call rfl ?_;unfold C1c
 obtain⟨R,hR⟩:∃R,R=chkT ⟨ver,l.map IC.x⟩:=⟨_,rfl⟩
 rw[<-hR];rw[chkT]at hR;simp only[List.length_map]at hR;have z:=L0 [];refine A0a C ?_;simp -implicitDefEqProofs [cd];rw[show Row.cells 39 [.t (sv ver),.t u]=X from hX.symm]
 cases h1:A1e false ver with
 | false=>
  rw[if_pos h1]at hR;rw[h1]at eV;refine A0a C ?_;simp -implicitDefEqProofs [z.l0,eV,hR]
 | true=>
 rw[if_neg (by rw[h1];decide)]at hR;rw[h1]at eV;refine A0a C ?_;simp -implicitDefEqProofs [z.l0,eV];by_cases h4:256<l.length
 ·rw[if_pos h4]at hR
  have hc:decide ((256:Int)<(l.length:Int))=true:=by simpa using (by omega:(256:Int)<(l.length:Int))
  refine A0a C ?_;simp -implicitDefEqProofs [z.l1,lu,hc,hR]
 rw[if_neg h4]at hR
 have hc:decide ((256:Int)<(l.length:Int))=false:=by simpa using (by omega:(l.length:Int)<=256)
 refine A0a C ?_;simp -implicitDefEqProofs [z.l1,lu,hc];refine A0o (α:=Unit) (fun _=>⟨[(1,.ptr 0 0)],[(0,X)],1,55⟩) (fun _=>R=0) (fun _=>rfl) ?_ ?_
 ·refine A0a C ?_;simp -implicitDefEqProofs;refine A0f ?_;refine A0k (SCr X) (fun j=>l.length-j) (fun j=>j<=l.length/\R=chkL (A6l l j) ((l.map IC.x).drop j)) 0 (fun _=>rfl) ⟨Nat.zero_le _,hR⟩ ?_ rfl ?_
  ·refine A0d ?_;simp -implicitDefEqProofs [SCr]
  rintro j ⟨hj,heq⟩;by_cases hlt:j<l.length
  ·obtain⟨c,hc⟩:∃c,l[j]?=some c:=⟨_,List.getElem?_eq_getElem hlt⟩
   obtain⟨pp,i1,ld9,ldn⟩:=B7y hu hc;have hsc:=hs.items c (List.mem_of_getElem? hc);have eI:=F5y c hsc;have eN:=B2j hsc.id
   have hd:(l.map IC.x).drop j=c.x::(l.map IC.x).drop (j+1):=by
    rw[List.drop_eq_getElem_cons (by simpa using hlt),List.getElem_map,(List.getElem?_eq_some_iff.1 hc).2]
   have hpn:A6l l (j+1)=some c.x.id:=by simp[A6l,hc]
   rw[hd,chkL,<-hpn]at heq;have e1:IntKind.i64.wrap ((j:Int)+1)=((j+1:Nat):Int):=A0h (by omega) (by omega);refine A3m ?_;refine A0c C ?_;simp -implicitDefEqProofs [SCr,z.l1,lu,hlt];refine⟨rfl,?_⟩;refine A3m ?_;refine A0f ?_
   cases g1:A1e false c.x.id with
   | false=>
    rw[if_pos g1]at heq;rw[g1]at eN;refine A0a C ?_;simp -implicitDefEqProofs [z.l1,i1,ldn,eN,heq,B0k]
   | true=>
   rw[if_neg (by rw[g1];decide)]at heq;rw[g1]at eN;refine A0a C ?_;simp -implicitDefEqProofs [z.l1,i1,ldn,eN];refine A0o (α:=Unit) (fun _=>⟨[(3,.t (iv (j:Int))),(1,.ptr 0 0)],[(0,X)],1,55⟩) (fun _=>C5l (A6l l j) c.x.id=false) (fun _=>rfl) ?_ ?_
   ·by_cases h0:j=0
    ·have hl:C5l (A6l l j) c.x.id=false:=by rw[h0];rfl
     have b1:decide (0<j)=false:=by simpa using h0
     refine A0c C ?_;simp -implicitDefEqProofs [b1];refine Abs.Next.mk () hl ?_;exact A0d (by simp -implicitDefEqProofs)
    ·have hj1:j-1<l.length:=by omega
     obtain⟨c0,hc0⟩:∃c,l[j-1]?=some c:=⟨_,List.getElem?_eq_getElem hj1⟩
     obtain⟨pp0,i0,_,ldid⟩:=B7y hu hc0
     have hp:A6l l j=some c0.x.id:=by
      obtain⟨j',rfl⟩:∃j',j=j'+1:=⟨j-1,by omega⟩
      simp at hc0;simp[A6l,hc0]
     have b0:0<j:=by omega
     have e0:IntKind.i64.wrap ((j:Int)-1)=((j-1:Nat):Int):=by rw[show(j:Int)-1=((j-1:Nat):Int)by omega];exact A0h rfl (by omega)
     have hless:=D0o c0.x.id c.x.id;rw[<-hp]at hless
     cases hl:C5l (A6l l j) c.x.id with
     | true=>
      rw[hl]at hless;rw[if_pos hl]at heq;refine A0c C ?_;simp -implicitDefEqProofs [b0,z.l1,i1,ldn,e0,i0,ldid,hless,heq,B0k]
     | false=>
      rw[hl]at hless;refine A0c C ?_;simp -implicitDefEqProofs [b0,z.l1,i1,ldn,e0,i0,ldid,hless];refine Abs.Next.mk () (by simp[hl]) ?_;exact A0d (by simp -implicitDefEqProofs)
   rintro _ hl;rw[if_neg (by rw[hl];decide)]at heq;by_cases g2:chkR c.x=0
   ·rw[if_neg (fun e=>e g2)]at heq;rw[g2]at eI;refine A0c C ?_;simp -implicitDefEqProofs [z.l1,i1,ld9,eI];refine⟨rfl,?_⟩;refine A0c C ?_;simp -implicitDefEqProofs only[runsM_ops,runsL_cons,runsL_nil];simp -implicitDefEqProofs [e1];refine Abs.Next.mk (j+1) ⟨⟨by omega,heq⟩,by omega⟩ ?_;exact A0d (by simp -implicitDefEqProofs [SCr])
   ·rw[if_pos g2]at heq
    have hb:(R != 0)=true:=by rw[heq];simpa using g2
    refine A0c C ?_;simp -implicitDefEqProofs [z.l1,i1,ld9,eI,<-heq,hb,B0k]
  ·rw[List.drop_of_length_le (by simp;omega),chkL]at heq;refine A0c C ?_;simp -implicitDefEqProofs [SCr,z.l1,lu,hlt];exact Abs.Next.mk () heq (A0d (by simp -implicitDefEqProofs))
 rintro _ hRG;refine A0c C ?_;simp -implicitDefEqProofs [hRG]
theorem F5z:GOK Tryz.prog (G q) 27 gChk:=A4c fun a b r ha hr=>by
 split at hr
 ·rename_i h;injection hr with hr;subst hr;obtain⟨u,rfl,hu⟩:=ha;exact D4e hu h
 ·cases hr
def B7n (d:Dv):Bool:=decide (sizD d 20<=20)
def B5b (x:It):Bool:=decide (x.decs.length<=12)&&(decide (x.words.length<=8)&&B7n x.gold)
theorem E1d (c:IC):A0w Tryz.prog (G q) 22 [.ag c.cs] (· = bv (B5b c.x)):=by
 obtain⟨tw,td,k,nm,f,t,tk,ks,ecs,hg,hk,hw,hd,hgD⟩:=A1a c.ok
 obtain⟨R,hR⟩:∃R,R=B5b c.x:=⟨_,rfl⟩
 rw[<-hR,ecs];unfold B5b at hR;have l1:=hw.len;have l2:=hd.len;have eL:C4k [.ag [iv k,sv nm,iv f,iv t,tk],.v (.int .i64 20)]=some (bv (B7n c.x.gold)):=D0v hgD (m:=20) (by omega);generalize c.x.id=id at *;generalize c.x.state=st at *;generalize B7n c.x.gold=lg at *;generalize c.x.words.length=wl at *;generalize c.x.decs.length=dl at *;have cd:=A3c id tw st td k nm f t tk
 obtain⟨X,hX⟩:∃X,X=iRow id tw st td k nm f t tk:=⟨_,rfl⟩
 have z:=ldI id tw st td k nm f t tk (H:=[(0,X)]) (b:=0) (by rw[hX];rfl);have C:Ctx Tryz.prog (G q) _:=(A0y.cons (F3a (q:=q)) .nil).ctx mixed;refine D3t.call rfl ?_;unfold C1f;refine A0a C ?_;simp -implicitDefEqProofs [cd];rw[show Row.cells 28 [.t (sv id),.t tw,.t (iv st),.t td,.t (iv k),.t (sv nm),.t (iv f),.t (iv t),.t tk]=X from hX.symm];refine A0c C ?_;by_cases h1:dl<=12
 ·have b1:decide ((dl:Int)<=12)=true:=by simpa using (by omega:(dl:Int)<=12)
  rw[decide_eq_true h1,Bool.true_and]at hR;by_cases h2:wl<=8
  ·have b2:decide ((wl:Int)<=8)=true:=by simpa using (by omega:(wl:Int)<=8)
   rw[decide_eq_true h2,Bool.true_and]at hR;simp -implicitDefEqProofs [z.l3,l2,b1,z.l1,l1,b2,z.g,eL,hR]
  ·have b2:decide ((wl:Int)<=8)=false:=by simpa using (by omega:8<(wl:Int))
   rw[decide_eq_false h2,Bool.false_and]at hR;simp -implicitDefEqProofs [z.l3,l2,b1,z.l1,l1,b2,hR]
 ·have b1:decide ((dl:Int)<=12)=false:=by simpa using (by omega:12<(dl:Int))
  rw[decide_eq_false h1,Bool.false_and]at hR;simp -implicitDefEqProofs [z.l3,l2,b1,hR]
def fewD:Nat->List Dv->Bool
 | _,[]=>true
 | i,d::r=>if 8<=i\/B7n d=false then false else fewD (i+1) r
def SFw (t:T) (j:Nat):A0b:=⟨[(3,.t (iv (j:Int))),(0,.t t)],[],0,20⟩
theorem F1x {t:T} {l:List Dv} (ht:IsK t l):A0w Tryz.prog (G q) 17 [t] (· = bv (fewD 0 l)):=by
 have C:Ctx Tryz.prog (G q) _:=(A0y.cons (F3a (q:=q)) .nil).ctx mixed;have l1:=ht.len;refine E6w.call rfl ?_;unfold D0p
 obtain⟨R,hR⟩:∃R,R=fewD 0 l:=⟨_,rfl⟩
 rw[<-hR];refine A0a C ?_;simp -implicitDefEqProofs;refine A0o (α:=Unit) (fun _=>⟨[],[],0,20⟩) (fun _=>R=true) (fun _=>rfl) ?_ ?_
 ·refine A0a C ?_;simp -implicitDefEqProofs;refine A0f ?_;refine A0k (SFw t) (fun j=>l.length-j) (fun j=>j<=l.length/\j<=8/\R=fewD j (l.drop j)) 0 (fun _=>rfl) ⟨Nat.zero_le _,by omega,hR⟩ ?_ rfl ?_
  ·refine A0d ?_;simp -implicitDefEqProofs [SFw]
  rintro j ⟨hj,h8,heq⟩;by_cases hlt:j<l.length
  ·obtain⟨d,hd⟩:∃d,l[j]?=some d:=⟨_,List.getElem?_eq_getElem hlt⟩
   obtain⟨p1,c1,i1,ld1,hc1⟩:=A5d ht hd;have eL:C4k [.ag c1,.v (.int .i64 20)]=some (bv (B7n d)):=D0v hc1 (m:=20) (by omega);have e1:IntKind.i64.wrap ((j:Int)+1)=((j+1:Nat):Int):=A0h (by omega) (by omega);rw[List.drop_eq_getElem_cons hlt,(List.getElem?_eq_some_iff.1 hd).2,fewD]at heq;by_cases h9:8<=j
   ·have hR:R=false:=by rw[heq,if_pos (.inl h9)]
    have b9:decide ((8:Int)<=(j:Int))=true:=by simpa using (by omega:(8:Int)<=(j:Int))
    refine A0c C ?_;simp -implicitDefEqProofs [SFw,l1,hlt,b9,hR]
   ·have b9:decide ((8:Int)<=(j:Int))=false:=by simpa using (by omega:(j:Int)<8)
    cases hL:B7n d with
    | false=>
     have hR:R=false:=by rw[heq,if_pos (.inr hL)]
     rw[hL]at eL;refine A0c C ?_;simp -implicitDefEqProofs [SFw,l1,hlt,b9,i1,ld1,eL,hR]
    | true=>
     rw[if_neg (by rw[hL];simp;omega)]at heq;rw[hL]at eL;refine A0c C ?_;simp -implicitDefEqProofs [SFw,l1,hlt,b9,i1,ld1,eL,e1];refine Abs.Next.mk (j+1) ⟨⟨by omega,by omega,heq⟩,by omega⟩ ?_;exact A0d (by simp -implicitDefEqProofs)
  ·have hR:R=true:=by rw[heq,List.drop_of_length_le (by omega)];rfl
   refine A0c C ?_;simp -implicitDefEqProofs [SFw,l1,hlt];exact Abs.Next.mk () hR (A0d fun q hq=>by cases hq)
 rintro _ hR0;refine A0c C ?_;simp -implicitDefEqProofs [hR0]
noncomputable def gLiI:List T->Option T:=g1 tIt fun c=>some (bv (B5b c.x))
theorem hLiI:GOK Tryz.prog (G q) 22 gLiI:=A4c fun a c r ha hr=>by
 injection hr with hr;subst hr;have ha:a = .ag c.cs:=ha;subst ha;exact E1d c
theorem D4f (c:IC):gLiI [.ag c.cs]=some (bv (B5b c.x)):=by
 show g1 _ _ _=_;rw[A5b (τ:=tIt) (x:=c) rfl]
noncomputable def gFew:List T->Option T:=g1 tK fun l=>some (bv (fewD 0 l))
theorem hFew:GOK Tryz.prog (G q) 17 gFew:=A4c fun a l r ha hr=>by
 injection hr with hr;subst hr;exact F1x ha
theorem C1n {t:T} {l:List Dv} (ht:IsK t l):gFew [t]=some (bv (fewD 0 l)):=by
 show g1 _ _ _=_;rw[A5b (τ:=tK) ht]
def gEx:List T->Option T
 | []=>some (bv true)
 | _=>none
theorem E8g {d:Dv} (h:B7n d=true):nodD d<=20:=by
 have h:=of_decide_eq_true h;have:=(E3r d 20 h).1;omega
theorem E8h:∀{l:List Dv} {i:Nat},fewD i l=true->nodK l+20*i<=160\/l=[]
 | [],i,_=>.inr rfl
 | d::r,i,h=>by
  rw[fewD]at h;split at h
  ·cases h
  ·rename_i hn;rw[not_or]at hn
   have hl:B7n d=true:=by simpa using hn.2
   have h1:=E8g hl;left;rw[nodK];rcases E8h h with h2 | rfl
   ·omega
   ·rw[nodK];omega
theorem D0z {l:List Dv} (h:fewD 0 l=true):SmK l:=by
 unfold SmK;rcases E8h h with h | rfl
 ·omega
 ·rw[nodK];omega
theorem SmI.e {x:It} (h:SmI x):SmE x:=⟨h.words.1,h.len,h.gold.2.2⟩
end Go.Proofs.YtmplckgbeaifkaaGreatDoor
namespace Go.Abs
set_option linter.unusedSimpArgs false
set_option linter.unusedVariables false
open Go
def F9k (H:Heap) (F:List Nat):List Nat:=F.filter fun b=>match look H b with
 | some (.cells _ cs)=>(allT cs).isSome
 | _=>false
def frzR:Nat->A0b->A0b
 | 0,s=>s
 | k+1,s=>match F9k s.H (F4q s.H)with
  | []=>s
  | F=>frzR k (s.frz F)
def E8i (tab:List (Nat×FnM)) (rounds:Nat) (Φ:A0v) (f:FuncId) (args:List T):Option T:=
 match look tab f with
 | some fm=>if args.length=fm.k then
   (match runF Φ rounds fm.M (startM fm.N args)with
   | some (.ret,s)=>resT fm.vs (frzR 4 s)
   | _=>none)
  else none
 | none=>none
def D7e (tab:List (Nat×FnM)) (memo:Memo) (rounds:Nat):Nat->A0v
 | 0=>⟨memo.get,fun _ _ _ _=>none⟩
 | n+1=>⟨fun f args=>match memo.get f args with
   | some r=>some r
   | none=>E8i tab rounds (D7e tab memo rounds n) f args,E4o tab rounds (D7e tab memo rounds n)⟩
section
variable {P : Program} {G : A0u} {B : Nat} {Φ : A0v}
theorem D7f:∀(k:Nat) (s:A0b),Sub P G B s (frzR k s)
 | 0,s=>Sub.refl s
 | k+1,s=>by
  unfold frzR;split
  ·exact Sub.refl s
  ·exact(B9i _).trans (D7f k _)
theorem D1a (hm:P.follows .mixedOrders=true) {tab:List (Nat×FnM)} (ht:E4p P G tab) (rounds:Nat) (hΦ:Φ.Sound P G) (f:FuncId) (args:List T) (r:T) (h:E8i tab rounds Φ f args=some r):A0w P G f args (· = r):=by
 unfold E8i at h;split at h
 ·rename_i fm hf;split at h
  ·rename_i hk;split at h
   ·rename_i s hr;unfold resT at h;split at h
    ·rename_i ps hps;split at h
     ·rename_i r' F hT;injection h with h;subst h;refine(ht _ (A0n hf)).call hk fun c hc hn=>?_
      exact(A5o (Q:=fun e s1=>e = .ret/\s1=s) ⟨hm,hΦ⟩ rounds fm.M hr ⟨rfl,rfl⟩ c hc hn).post fun e s1 hq=>⟨frzR 4 s1,D7f 4 s1,by
       obtain⟨rfl,rfl⟩:=hq
       exact⟨.inr rfl,ps,r',F,hps,hT,rfl⟩⟩
     ·cases h
    ·cases h
   ·cases h
  ·cases h
 ·cases h
theorem A7v (hm:P.follows .mixedOrders=true) {tab:List (Nat×FnM)} (ht:E4p P G tab) {memo:Memo} (hme:B4p P G memo) (rounds:Nat):∀n,(D7e tab memo rounds n).Sound P G
 | 0=>⟨fun _ _ _ h=>Memo.get_sound hme h,fun _ _ _ _ _ _ _ h=>(by cases h),fun _ _ _ _ _ _ _ h=>(by cases h)⟩
 | n+1=>⟨fun f args r h=>by
   simp only[D7e]at h;split at h
   ·rename_i r' hr;injection h with h;subst h;exact Memo.get_sound hme hr
   ·exact D1a hm ht rounds (A7v hm ht hme rounds n) f args r h,
   fun f ps H nx r H' nx' h=>(B7h hm ht rounds (A7v hm ht hme rounds n) f ps H nx r H' nx' h).1,
   fun f ps H nx r H' nx' h _=>(B7h hm ht rounds (A7v hm ht hme rounds n) f ps H nx r H' nx' h).2⟩
end
end Go.Abs
namespace Go.Proofs.YtmplckgbeaifkaaGreatDoor
set_option linter.unusedSimpArgs false
set_option linter.unusedVariables false
open Go Go.Abs
variable {q : Gl}
def dLa:Dv:=.mk 0 ⟨#[97]⟩ 0 1 []
def dLb:Dv:=.mk 0 ⟨#[98]⟩ 1 2 []
def dNp:Dv:=.mk 2 ⟨#[110,112]⟩ 0 2 [dLa,dLb]
def dVp:Dv:=.mk 2 ⟨#[118,112]⟩ 0 2 [dLa,dLb]
def dXp:Dv:=.mk 2 ⟨#[120,112]⟩ 0 2 [dLa,dLb]
def tabE:List (Nat×FnM):=[(52,⟨0,14,D0q,[(.tmp 0)]⟩),(98,⟨2,10,C4g,[(.cell 4 true 5)]⟩)]
theorem F6a:E4p Tryz.prog (G q) tabE:=fun z hz=>by
 simp only[tabE,List.mem_cons,List.not_mem_nil,or_false]at hz;rcases hz with rfl | rfl
 ·exact E6x
 ·exact E0r
def xIt:It:=⟨⟨#[105]⟩,[⟨#[97]⟩,⟨#[98]⟩],1,[⟨⟨2,⟨#[110,112]⟩,0,2⟩,true⟩],dNp⟩
def xC:IC:=IC.of xIt
def mx1:List DC:=[DC.of dVp]
def mx2:List DC:=[DC.of dNp,DC.of dVp]
def mx3:List DC:=[DC.of dVp,DC.of dXp]
def mx4:List DC:=[DC.of dVp,DC.of dNp]
theorem sm1:SmR xC mx1:=⟨by unfold SmK;decide,by decide⟩
theorem sm2:SmR xC mx2:=⟨by unfold SmK;decide,by decide⟩
theorem sm3:SmR xC mx3:=⟨by unfold SmK;decide,by decide⟩
theorem sm4:SmR xC mx4:=⟨by unfold SmK;decide,by decide⟩
theorem wd_np:Wd dNp:=⟨by simp[dNp,dLa,dLb,A8n,A6k];decide,by simp[dNp,dLa,dLb,IntD,IntK],by decide⟩
theorem F9l:SmI xIt:=⟨⟨by decide,by decide⟩,by decide,by decide,wd_np,by decide⟩
def rd1:RD:=⟨slT eDC mx1,mx1,IsS.mk _⟩
theorem smu_x:SmU ⟨#[118,49]⟩ [xC] ⟨#[118,50]⟩ [rd1]:=⟨⟨by decide,by decide,fun c hc=>by rw[List.mem_singleton.1 hc];exact F9l⟩,by decide,fun c hc=>by rw[List.mem_singleton.1 hc];decide,fun r hr=>by rw[List.mem_singleton.1 hr];exact sm1.1,by decide⟩
def memoE:Memo:=[
 (19,[.ag xC.cs,slT eDC mx2],repT xC mx2),(19,[.ag xC.cs,slT eDC mx1],repT xC mx1),(19,[.ag xC.cs,slT eDC mx3],repT xC mx3),(19,[.ag xC.cs,slT eDC mx4],repT xC mx4),
 (23,[.ag [sv ⟨#[118,49]⟩,slT eIC [xC]],sv ⟨#[118,50]⟩,slT eRD [rd1]],updT ⟨#[118,49]⟩ (slT eIC [xC]) [xC] ⟨#[118,50]⟩ [rd1]),
 (21,[.ag xC.cs,.ag (repC xC mx2)],bv true)]
theorem F1y:B4p Tryz.prog (G q) memoE:=by
 refine .cons (A6c xC (IsS.mk mx2) sm2.1 sm2.2) (.cons (A6c xC (IsS.mk mx1) sm1.1 sm1.2) (.cons (A6c xC (IsS.mk mx3) sm3.1 sm3.2) (.cons (A6c xC (IsS.mk mx4) sm4.1 sm4.2) (.cons (B3j (IsS.mk _) (IsS.mk _) smu_x) (.cons ?_ .nil)))));exact B1k xC.ok (E7t xC mx2) F9l.e
def tabF:List (Nat×FnM):=(18,⟨0,150,A7t,[(.tmp 0)]⟩)::tabE
theorem F6b:E4p Tryz.prog (G q) tabF:=fun z hz=>by
 rcases List.mem_cons.1 hz with rfl | hz
 ·exact B4y
 ·exact F6a z hz
theorem F6c:A0w Tryz.prog (G q) 18 [] (· = bv true):=
 (A7v (G:=G q) mixed F6b F1y 50 3).1 18 [] _ (by kernel_rfl)
theorem E1e:GOK Tryz.prog (G q) 18 gEx:=fun args r h=>by
 unfold gEx at h;split at h
 ·injection h with h;subst h;exact F6c
 ·cases h
end Go.Proofs.YtmplckgbeaifkaaGreatDoor
