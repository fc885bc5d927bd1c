/-
 Auxiliary facts. No statement of the program stands here.
-/
import Derived.Test.YtmplckgbeaifkaaGreatDoorVBQ37
namespace Go.Proofs.YtmplckgbeaifkaaGreatDoor
set_option linter.unusedSimpArgs false
set_option linter.unusedVariables false
open Go Go.Abs
variable {q : Gl}
def allW (ws:List ByteArray):Int:=if ws.all A3n then 0 else 1
def A4b (t:T) (n j:Nat):A0b:=⟨[(13,.t (iv (j:Int))),(12,.t (iv (n:Int))),(11,.t t)],[],0,21⟩
theorem B7x {t:T} {ws:List ByteArray} (ht:IsS eStr t ws) (hw:∀w∈ws,w.size<=lim) (hl:ws.length<=2000000):A0w Tryz.prog (G q) 119 [t] (· = iv (chkW ws)):=by
 have C:Ctx Tryz.prog (G q) _:=(A0y.cons (hWd (q:=q)) .nil).ctx mixed;have l1:=ht.len;refine C6q.call rfl ?_;unfold B4v
 obtain⟨R,hR⟩:∃R,R=chkW ws:=⟨_,rfl⟩
 rw[<-hR];rw[chkW]at hR;refine A0a C ?_;simp -implicitDefEqProofs
 by_cases h0:ws=[]
 ·rw[if_pos h0]at hR;subst h0;have hb:((([]:List ByteArray).length:Int)==0)=true:=rfl;refine A0a C ?_;simp -implicitDefEqProofs [l1,hb,hR]
 rw[if_neg h0]at hR
 have hb:((ws.length:Int)==0)=false:=by
  have:ws.length≠0:=fun e=>h0 (List.eq_nil_of_length_eq_zero e);simpa using this
 refine A0a C ?_;simp -implicitDefEqProofs [l1,hb,h0];by_cases h32:32<ws.length
 ·rw[if_pos h32]at hR
  have hc:decide ((32:Int)<(ws.length:Int))=true:=by simpa using (by omega:(32:Int)<(ws.length:Int))
  refine A0a C ?_;simp -implicitDefEqProofs [l1,hc,hR]
 rw[if_neg h32]at hR
 have hc:decide ((32:Int)<(ws.length:Int))=false:=by simpa using (by omega:(ws.length:Int)<=32)
 refine A0a C ?_;simp -implicitDefEqProofs [l1,hc];refine A0o (α:=Unit) (fun _=>⟨[],[],0,21⟩) (fun _=>R=0) (fun _=>rfl) ?_ ?_
 ·refine A0a C ?_;simp -implicitDefEqProofs [l1];refine A0f ?_;refine A0k (A4b t ws.length) (fun j=>ws.length-j) (fun j=>j<=ws.length/\allW (ws.drop j)=R) 0 (fun _=>rfl) ⟨Nat.zero_le _,by simp[hR,allW]⟩ ?_ rfl ?_
  ·refine A0d ?_;simp -implicitDefEqProofs [A4b]
  rintro j ⟨hj,heq⟩;refine A0c C ?_;by_cases hlt:j<ws.length
  ·obtain⟨x,hx⟩:∃x,ws[j]?=some x:=⟨_,List.getElem?_eq_getElem hlt⟩
   have i1:A1o 1 (.t t) (.t (iv (j:Int)))=some (.t (.pt (sv x::rest eStr ws j))):=ht.iaddr hx .i64;have ld:∀H,A0g false 1 H (.t (.pt (sv x::rest eStr ws j)))=some (.t (sv x)):=fun _=>rfl;have eW:=F2i (hw x (List.mem_of_getElem? hx));have e1:IntKind.i64.wrap ((j:Int)+1)=((j+1:Nat):Int):=A0h (by omega) (by omega);rw[List.drop_eq_getElem_cons hlt,(List.getElem?_eq_some_iff.1 hx).2,allW,List.all_cons]at heq
   cases hxw:A3n x with
   | true=>
    rw[hxw,Bool.true_and]at heq;rw[hxw]at eW;simp -implicitDefEqProofs [A4b,l1,hlt,i1,ld,eW,e1];exact Abs.Next.mk (j+1) ⟨⟨by omega,heq⟩,by omega⟩ (A0d (by simp -implicitDefEqProofs [A4b]))
   | false=>
    rw[hxw,Bool.false_and,if_neg (by simp)]at heq;rw[hxw]at eW;simp -implicitDefEqProofs [A4b,l1,hlt,i1,ld,eW,<-heq]
  ·rw[List.drop_of_length_le (by omega)]at heq;simp -implicitDefEqProofs [A4b,l1,hlt];exact Abs.Next.mk () (by simpa[allW]using heq.symm) (A0d (by simp -implicitDefEqProofs))
 ·rintro _ h0;refine A0c C ?_;simp -implicitDefEqProofs [h0]
def A5q (t:T) (n j:Nat):A0b:=⟨[(3,.t (iv (j:Int))),(0,.t t)],[],0,22⟩
theorem C2c {t:T} {ws:List ByteArray} (ht:IsS eStr t ws) (hw:∀w∈ws,w.size<=lim) (hl:ws.length<=2000000):A0w Tryz.prog (G q) 108 [t] (· = iv (chkW ws)):=by
 have C:Ctx Tryz.prog (G q) _:=(A0y.cons (hRWd (q:=q)) .nil).ctx mixed;have l1:=ht.len;refine D3q.call rfl ?_;unfold C1b
 obtain⟨R,hR⟩:∃R,R=chkW ws:=⟨_,rfl⟩
 rw[<-hR];rw[chkW]at hR;refine A0a C ?_;simp -implicitDefEqProofs
 by_cases h0:ws=[]
 ·rw[if_pos h0]at hR;subst h0;have hb:((([]:List ByteArray).length:Int)==0)=true:=rfl;refine A0a C ?_;simp -implicitDefEqProofs [l1,hb,hR]
 rw[if_neg h0]at hR
 have hb:((ws.length:Int)==0)=false:=by
  have:ws.length≠0:=fun e=>h0 (List.eq_nil_of_length_eq_zero e);simpa using this
 refine A0a C ?_;simp -implicitDefEqProofs [l1,hb,h0];by_cases h32:32<ws.length
 ·rw[if_pos h32]at hR
  have hc:decide ((32:Int)<(ws.length:Int))=true:=by simpa using (by omega:(32:Int)<(ws.length:Int))
  refine A0a C ?_;simp -implicitDefEqProofs [l1,hc,hR]
 rw[if_neg h32]at hR
 have hc:decide ((32:Int)<(ws.length:Int))=false:=by simpa using (by omega:(ws.length:Int)<=32)
 refine A0a C ?_;simp -implicitDefEqProofs [l1,hc];refine A0o (α:=Unit) (fun _=>⟨[],[],0,22⟩) (fun _=>R=0) (fun _=>rfl) ?_ ?_
 ·refine A0a C ?_;simp -implicitDefEqProofs [l1];refine A0f ?_;refine A0k (A5q t ws.length) (fun j=>ws.length-j) (fun j=>j<=ws.length/\allW (ws.drop j)=R) 0 (fun _=>rfl) ⟨Nat.zero_le _,by simp[hR,allW]⟩ ?_ rfl ?_
  ·refine A0d ?_;simp -implicitDefEqProofs [A5q]
  rintro j ⟨hj,heq⟩;refine A0c C ?_;by_cases hlt:j<ws.length
  ·obtain⟨x,hx⟩:∃x,ws[j]?=some x:=⟨_,List.getElem?_eq_getElem hlt⟩
   have i1:A1o 1 (.t t) (.t (iv (j:Int)))=some (.t (.pt (sv x::rest eStr ws j))):=ht.iaddr hx .i64;have ld:∀H,A0g false 1 H (.t (.pt (sv x::rest eStr ws j)))=some (.t (sv x)):=fun _=>rfl;have eW:=F2i (hw x (List.mem_of_getElem? hx));have e1:IntKind.i64.wrap ((j:Int)+1)=((j+1:Nat):Int):=A0h (by omega) (by omega);rw[List.drop_eq_getElem_cons hlt,(List.getElem?_eq_some_iff.1 hx).2,allW,List.all_cons]at heq
   cases hxw:A3n x with
   | true=>
    rw[hxw,Bool.true_and]at heq;rw[hxw]at eW;simp -implicitDefEqProofs [A5q,l1,hlt,i1,ld,eW,e1];exact Abs.Next.mk (j+1) ⟨⟨by omega,heq⟩,by omega⟩ (A0d (by simp -implicitDefEqProofs [A5q]))
   | false=>
    rw[hxw,Bool.false_and,if_neg (by simp)]at heq;rw[hxw]at eW;simp -implicitDefEqProofs [A5q,l1,hlt,i1,ld,eW,<-heq]
  ·rw[List.drop_of_length_le (by omega)]at heq;simp -implicitDefEqProofs [A5q,l1,hlt];exact Abs.Next.mk () (by simpa[allW]using heq.symm) (A0d (by simp -implicitDefEqProofs))
 ·rintro _ h0;refine A0c C ?_;simp -implicitDefEqProofs [h0]
def SmW (ws:List ByteArray):Prop:=ws.length<=2000000/\∀w∈ws,w.size<=lim
noncomputable def gTok:List T->Option T:=g1 (tSl eStr) fun ws=>open Classical in if SmW ws then some (iv (chkW ws))else none
theorem hTok:GOK Tryz.prog (G q) 119 gTok:=A4c fun a x r ha hr=>by
 split at hr
 ·rename_i h;injection hr with hr;subst hr;exact B7x ha h.2 h.1
 ·cases hr
theorem hRTok:GOK Tryz.prog (G q) 108 gTok:=A4c fun a x r ha hr=>by
 split at hr
 ·rename_i h;injection hr with hr;subst hr;exact C2c ha h.2 h.1
 ·cases hr
theorem E6s {t:T} {ws:List ByteArray} (ht:IsS eStr t ws) (h:SmW ws):gTok [t]=some (iv (chkW ws)):=by
 show g1 _ _ _=_;rw[A5b (τ:=tSl eStr) ht,if_pos h]
set_option maxHeartbeats 2000000 in
theorem C6r (p:Pr) (m:Int) (hs:p.name.size<=lim):A0w Tryz.prog (G q) 120 [.ag (ePr.enc p),iv m] (· = iv (chkP p m)):=by
 obtain⟨k,n,f,t⟩:=p;have cd:=A5f ⟨k,n,f,t⟩;have eN:=B2j hs;simp only at eN;refine B3e.runs ((A0y.cons (hNm (q:=q)) .nil).ctx mixed) rfl ?_
 obtain⟨R,hR⟩:∃R,R=chkP ⟨k,n,f,t⟩ m:=⟨_,rfl⟩
 rw[<-hR];simp only[chkP]at hR;by_cases h1:k<0
 ·rw[if_pos (.inl h1)]at hR;simp -implicitDefEqProofs [A0z,cd,A0g,h1,hR]
 by_cases h2:3<k
 ·rw[if_pos (.inr h2)]at hR;simp -implicitDefEqProofs [A0z,cd,A0g,h1,h2,hR]
 rw[if_neg (fun h=>h.elim h1 h2)]at hR
 have last:∀(R:Int),R=(if f<0\/t<=f\/m<t then 2 else 0)->(f<0/\R=2)\/(¬f<0/\t<=f/\R=2)\/(¬f<0/\¬t<=f/\m<t/\R=2)\/(¬f<0/\¬t<=f/\¬m<t/\R=0):=fun R h=>by
  by_cases g1:f<0
  ·exact .inl ⟨g1,by rw[h,if_pos (.inl g1)]⟩
  ·by_cases g2:t<=f
   ·exact .inr (.inl ⟨g1,g2,by rw[h,if_pos (.inr (.inl g2))]⟩)
   ·by_cases g3:m<t
    ·exact .inr (.inr (.inl ⟨g1,g2,g3,by rw[h,if_pos (.inr (.inr g3))]⟩))
    ·exact .inr (.inr (.inr ⟨g1,g2,g3,by rw[h,if_neg (fun x=>x.elim g1 fun x=>x.elim g2 g3)]⟩))
 by_cases h3:k=3
 ·by_cases h4:n=⟨#[]⟩
  ·rw[if_neg (fun h=>h.elim (fun h=>h.2 h4) (fun h=>h.1 h3))]at hR;subst h3;subst h4;rcases last R hR with⟨g1,hr⟩ | ⟨g1,g2,hr⟩ | ⟨g1,g2,g3,hr⟩ | ⟨g1,g2,g3,hr⟩
   ·simp -implicitDefEqProofs [A0z,cd,A0g,A3g,g1,hr]
   ·simp -implicitDefEqProofs [A0z,cd,A0g,A3g,g1,g2,hr]
   ·simp -implicitDefEqProofs [A0z,cd,A0g,A3g,g1,g2,g3,hr]
   ·simp -implicitDefEqProofs [A0z,cd,A0g,A3g,g1,g2,g3,hr]
  ·rw[if_pos (.inl ⟨h3,h4⟩)]at hR;subst h3
   have he:n.toList.isEmpty=false:=by
    cases h:n.toList with
    | nil=>exact absurd (toList_inj (b:=⟨#[]⟩) (by rw[h,A5m])) h4
    | cons _ _=>rfl
   simp -implicitDefEqProofs [A0z,cd,A0g,he,hR]
 ·have b3:(k==3)=false:=by simpa using h3
  have c3:(k != 3)=true:=by simpa using h3
  cases hn:A1e false n with
  | false=>
   rw[if_pos (.inr ⟨h3,hn⟩)]at hR;rw[hn]at eN;simp -implicitDefEqProofs [A0z,cd,A0g,h1,h2,b3,c3,eN,hR]
  | true=>
   rw[if_neg (fun h=>h.elim (fun h=>h3 h.1) (fun h=>by rw[hn]at h;cases h.2))]at hR;rw[hn]at eN;rcases last R hR with⟨g1,hr⟩ | ⟨g1,g2,hr⟩ | ⟨g1,g2,g3,hr⟩ | ⟨g1,g2,g3,hr⟩
   ·simp -implicitDefEqProofs [A0z,cd,A0g,h1,h2,b3,c3,eN,g1,hr]
   ·simp -implicitDefEqProofs [A0z,cd,A0g,h1,h2,b3,c3,eN,g1,g2,hr]
   ·simp -implicitDefEqProofs [A0z,cd,A0g,h1,h2,b3,c3,eN,g1,g2,g3,hr]
   ·simp -implicitDefEqProofs [A0z,cd,A0g,h1,h2,b3,c3,eN,g1,g2,g3,hr]
noncomputable def gDcn:List T->Option T:=g2 (tAg ePr) tInt fun p m=>if p.name.size<=lim then some (iv (chkP p m))else none
theorem hDcn:GOK Tryz.prog (G q) 120 gDcn:=A4e fun a b p m r ha hb hr=>by
 obtain rfl:a = .ag (ePr.enc p):=ha;obtain rfl:b=iv m:=hb;split at hr
 ·rename_i h;injection hr with hr;subst hr;exact C6r p m h
 ·cases hr
theorem F5o (p:Pr) (m:Int) (h:p.name.size<=lim):gDcn [.ag (ePr.enc p),iv m]=some (iv (chkP p m)):=by
 show g2 _ _ _ _=_;rw[A4u (τ:=tAg ePr) (σ:=tInt) rfl rfl,if_pos h]
mutual
theorem E6t:∀d:Dv,nodD d<=(prtD d).length
 | .mk k n f t ks=>by
  have:=D6y ks;rw[nodD,prtD];simp only[List.length_cons,List.length_append];omega
theorem D6y:∀l:List Dv,nodK l<=(prtK l).length
 | []=>by simp[nodK,prtK]
 | d::r=>by
  have h1:=E6t d;have h2:=D6y r;rw[nodK,prtK];simp only[List.length_cons,List.length_append];omega
end
theorem D6z {s:List UInt8} {d:Dv} (h:parD s = .ok d):nodD d<=65536:=by
 have h1:=F4b h;have h2:=E6t d;rw[h1]at h2;unfold parD at h;split at h
 ·cases h
 ·omega
theorem E6u {s:List UInt8} {e:Int} (h:parD s = .error e):e≠0:=by
 unfold parD at h;split at h
 ·injection h with h;omega
 ·have hr:=C0o 64 s;split at h
  ·rename_i e' he;rw[he]at hr;injection h with h;subst h;exact hr.2.2
  ·cases h
  ·injection h with h;omega
theorem D3s {c:List T} {d:Dv} (h:Abs.IsD d c) (hw:Wd d):A0w Tryz.prog (G q) 122 [.ag c] (· = bv (C5k d)):=by
 have e1:=F0u h hw;have e2:=F0v (bs (prtD d));have e2:F5a [sv (bs (prtD d))]=some (parT (prtD d)):=e2;have hn:nodD d<=1000000:=hw.2.2
 have hsp:C5k d=(match parD (prtD d)with | .ok x=>decide (cmpD x d=0) | .error _=>false):=by
  unfold C5k;cases parD (prtD d)<;>rfl
 have h0:=h
 cases d with
 | mk k nm f t ks=>
 obtain⟨tk,rfl,hk⟩:=h.parts;have cd:=A3o k nm f t tk;have C:Ctx Tryz.prog (G q) _:=(A0y.cons (hDPrt (q:=q)) (.cons (hDPar (q:=q)) (.cons (F0c (q:=q)) .nil))).ctx mixed
 obtain⟨H1,hH1⟩:∃H1:Heap,H1=[(0,.cells 26 [.t (iv k),.t (sv nm),.t (iv f),.t (iv t),.t tk])]:=⟨_,rfl⟩
 have ld:A0g true 5 H1 (.ptr 0 0)=some (.t (.ag [iv k,sv nm,iv f,iv t,tk])):=by rw[hH1];rfl
 obtain⟨P,hP⟩:∃P,P=prtD (.mk k nm f t ks):=⟨_,rfl⟩
 rw[<-hP]at e1 e2 hsp;rw[hsp];refine B6e.runs C rfl ?_
 cases hpar:parD P with
 | error e=>
  have he:=E6u hpar
  have hb:(e==0)=false:=by simpa using he
  have ep:parT P = .tu [.ag (encD A2c),iv e]:=by unfold parT;rw[hpar]
  rw[ep]at e2;have st:A0t 5 (zD5 1::H1) (.ptr 1 0) (.t (.ag (encD A2c)))=some ((1,.cells 26 ((encD A2c).map .t))::H1):=A7d 1 H1 A2c (IsD.enc A2c);simp -implicitDefEqProofs [A5p,cd,<-hH1,ld,e1,e2,st,hb]
 | ok x=>
  have hx:=D6z hpar
  have ep:parT P = .tu [.ag (encD x),iv 0]:=by unfold parT;rw[hpar]
  rw[ep]at e2
  obtain⟨H2,hH2⟩:∃H2:Heap,H2=(1,.cells 26 ((encD x).map .t))::H1:=⟨_,rfl⟩
  have st:A0t 5 (zD5 1::H1) (.ptr 1 0) (.t (.ag (encD x)))=some H2:=by rw[hH2];exact A7d 1 H1 x (IsD.enc x)
  have ld2:A0g true 5 H2 (.ptr 1 0)=some (.t (.ag (encD x))):=by rw[hH2];exact A9i 1 H1 x (IsD.enc x)
  have ld3:A0g true 5 H2 (.ptr 0 0)=some (.t (.ag [iv k,sv nm,iv f,iv t,tk])):=by rw[hH2,hH1];rfl
  have eC:=A9r (IsD.enc x) h0 (by omega) hn
  have hcd:(cmpD x (.mk k nm f t ks)==0)=decide (cmpD x (.mk k nm f t ks)=0):=by
   rw[Bool.eq_iff_iff];simp
  simp -implicitDefEqProofs [A5p,cd,<-hH1,ld,e1,e2,st,ld2,ld3,eC,hcd]
noncomputable def gPsd:List T->Option T:=g1 tD fun d=>open Classical in if Wd d then some (bv (C5k d))else none
theorem hPsd:GOK Tryz.prog (G q) 122 gPsd:=A4c fun a d r ha hr=>by
 split at hr
 ·rename_i h;injection hr with hr;subst hr;obtain⟨c,rfl,hc⟩:=ha;exact D3s hc h
 ·cases hr
theorem F5p {c:List T} {d:Dv} (h:Abs.IsD d c) (hw:Wd d):gPsd [.ag c]=some (bv (C5k d)):=by
 show g1 _ _ _=_;rw[A5b (τ:=tD) (x:=d) ⟨c,rfl,h⟩,if_pos hw]
structure SmI (x:It):Prop where
 words:SmW x.words
 len:x.decs.length<=1000000
 decs:∀d∈x.decs,d.p.name.size<=lim
 gold:Wd x.gold
 id:x.id.size<=lim
def iRow (id:ByteArray) (tw:T) (st:Int) (td:T) (k:Int) (nm:ByteArray) (f t:Int) (tk:T):Row:=.cells 28 [.t (sv id),.t tw,.t (iv st),.t td,.t (iv k),.t (sv nm),.t (iv f),.t (iv t),.t tk]
theorem A1a {x:It} {cs:List T} (h:IsIt x cs):∃tw td k nm f t tk ks,cs=[sv x.id,tw,iv x.state,td,iv k,sv nm,iv f,iv t,tk]/\x.gold = .mk k nm f t ks/\IsK tk ks/\IsS eStr tw x.words/\IsS eDc td x.decs/\Abs.IsD x.gold [iv k,sv nm,iv f,iv t,tk]:=by
 obtain⟨tw,td,g,e,h1,h2,h3⟩:=h
 cases hg:x.gold with
 | mk k nm f t ks=>
  rw[hg]at h3;have h4:=h3;obtain⟨tk,rfl,hk⟩:=h3.parts;exact⟨tw,td,k,nm,f,t,tk,ks,e,rfl,hk,h1,h2,h4⟩
section
variable (id : ByteArray) (tw : T) (st : Int) (td : T) (k : Int) (nm : ByteArray) (f t : Int) (tk : T)
theorem A3c:A1m (.t (.ag [sv id,tw,iv st,td,iv k,sv nm,iv f,iv t,tk]))=some [.t (sv id),.t tw,.t (iv st),.t td,.t (iv k),.t (sv nm),.t (iv f),.t (iv t),.t tk]:=rfl
structure LdI (H:Heap) (b:Nat):Prop where
 l0:A0g false 1 H (.ptr b 0)=some (.t (sv id))
 l1:A0g false 1 H (.ptr b 1)=some (.t tw)
 l2:A0g false 1 H (.ptr b 2)=some (.t (iv st))
 l3:A0g false 1 H (.ptr b 3)=some (.t td)
 l6:A0g false 1 H (.ptr b 6)=some (.t (iv f))
 l7:A0g false 1 H (.ptr b 7)=some (.t (iv t))
 g:A0g true 5 H (.ptr b 4)=some (.t (.ag [iv k,sv nm,iv f,iv t,tk]))
 a:A0g true 9 H (.ptr b 0)=some (.t (.ag [sv id,tw,iv st,td,iv k,sv nm,iv f,iv t,tk]))
theorem ldI {H:Heap} {b:Nat} (h:Abs.look H b=some (iRow id tw st td k nm f t tk)):LdI id tw st td k nm f t tk H b:=by
 constructor<;>simp[A0g,h,iRow,agOf,allT]
end
theorem bdZ5 {Φ:A0v} {H:Heap} {nx:Nat}:A0e Φ H nx (.build [(0,1),(1,1),(2,1),(3,1),(4,1)] [.int .i64 0,.string ⟨#[]⟩,.int .i64 0,.int .i64 0,.slice none 0 0] []) []=some (.t (.ag (encD A2c)),H,nx):=rfl
abbrev A5r (d:Dc):Row:=.cells 61 [.t (iv d.p.kind),.t (sv d.p.name),.t (iv d.p.frm),.t (iv d.p.to),.t (bv d.yes)]
theorem B4x:FnOK Tryz.prog (G q) 121 2 9 A8r [(.tmp 3)]:=⟨Tryz.f121,Tryz.func121,by kernel_rfl,by kernel_rfl,by kernel_rfl,by kernel_rfl⟩
theorem E0p {X:Row} (hX:∃(ty:Nat) (cs:List T),X = .cells ty (cs.map .t)) (d y:Dc):A2g Tryz.prog (G q) 121 ([]++[PV.t (.ag (eDc.enc y))]++[.ptr 1 0]) [(1,A5r d),(0,X)] 2 (.t (bv (decide (y.p=d.p)))) [(1,A5r d),(0,X)] 2:=by
 have cd:A1m (.t (.ag (eDc.enc y)))=some [.t (iv y.p.kind),.t (sv y.p.name),.t (iv y.p.frm),.t (iv y.p.to),.t (bv y.yes)]:=rfl
 obtain⟨H1,hH1⟩:∃H1:Heap,H1=(2,A5r y)::[(1,A5r d),(0,X)]:=⟨_,rfl⟩
 have ld1:A0g true 4 H1 (.ptr 2 0)=some (.t (.ag (ePr.enc y.p))):=by rw[hH1];rfl
 have ld2:A0g true 4 H1 (.ptr 1 0)=some (.t (.ag (ePr.enc d.p))):=by rw[hH1];rfl
 have eq:=C2b y.p d.p;refine B4x.callP rfl ?_;unfold A8r;simp only[List.nil_append,List.singleton_append];refine A0c A0x ?_;simp -implicitDefEqProofs [cd,<-hH1,ld1,ld2,eq];refine⟨.inr rfl,⟨[(3,.t (bv (decide (y.p=d.p))))],[(1,A5r d),(0,X)],2,9⟩,[.t (bv (decide (y.p=d.p)))],B0z (by omega) (fun z hz=>?_) (by simp -implicitDefEqProofs [under]),rfl,rfl,rfl,rfl⟩;simp only[List.mem_cons,List.not_mem_nil,or_false]at hz;rcases hz with rfl | rfl
 ·exact⟨by rw[hH1];rfl,by show 1<2;omega,rfl⟩
 ·obtain⟨ty,cs,rfl⟩:=hX;exact⟨by rw[hH1];rfl,by show 0<2;omega,A2f _ _⟩
def SIt (X:Row) (td:T) (n j:Nat):A0b:=⟨[(28,.t (iv (j:Int))),(27,.t (iv (n:Int))),(26,.t td),(1,.ptr 0 0)],[(0,X)],1,89⟩
theorem F8u (d:Dc) (H:Heap):A0t 5 ((1,Row.cells 61 [.t (.v (.int .i64 0)),.t (.v (.string ⟨#[]⟩)),.t (.v (.int .i64 0)),.t (.v (.int .i64 0)),.t (.v (.bool false))])::H) (.ptr 1 0) (.t (.ag (eDc.enc d)))=some ((1,A5r d)::H):=rfl
set_option maxHeartbeats 2000000 in
theorem E6v {x:It} {cs:List T} (h:IsIt x cs) (hs:SmI x):A0w Tryz.prog (G q) 69 [.ag cs] (· = iv (chkR x)):=by
 obtain⟨tw,td,k,nm,f,t,tk,ks,rfl,hg,hk,hw,hd,hgD⟩:=A1a h;obtain⟨id,ws,st,ds,gold⟩:=x;simp only at hg hw hd hgD;have hW:=hs.words;have hdl:=hs.len;have hdn:=hs.decs;have hWd:=hs.gold;simp only at hW hdl hdn hWd;have cd:=A3c id tw st td k nm f t tk;have lw:=hw.len;have ldd:=hd.len;have eT:=E6s hw hW
 obtain⟨X,hX⟩:∃X,X=iRow id tw st td k nm f t tk:=⟨_,rfl⟩
 have hXc:∃(ty:Nat) (cs:List T),X = .cells ty (cs.map .t):=⟨_,[sv id,tw,iv st,td,iv k,sv nm,iv f,iv t,tk],hX⟩
 have L0:∀R:Heap,LdI id tw st td k nm f t tk ((0,X)::R) 0:=fun R=>ldI _ _ _ _ _ _ _ _ _ (by rw[hX];rfl);have L1:∀(Y:Row) (R:Heap),LdI id tw st td k nm f t tk ((1,Y)::(0,X)::R) 0:=fun Y R=>ldI _ _ _ _ _ _ _ _ _ (by rw[hX];rfl);have C:Ctx Tryz.prog (G q) _:=(A0y.cons (hTok (q:=q)) (.cons (hDcn (q:=q)) (.cons (hPsd (q:=q)) (.cons (F0c (q:=q)) .nil)))).ctx mixed;refine C1a.call rfl ?_;unfold B1f
 obtain⟨R,hR⟩:∃R,R=chkR ⟨id,ws,st,ds,gold⟩:=⟨_,rfl⟩
 rw[<-hR];rw[chkR]at hR;simp only at hR;have z:=L0 [];refine A0a C ?_;simp -implicitDefEqProofs [cd];rw[show Row.cells 28 [.t (sv id),.t tw,.t (iv st),.t td,.t (iv k),.t (sv nm),.t (iv f),.t (iv t),.t tk]=X from hX.symm];by_cases h1:chkW ws=0
 rotate_left
 ·rw[if_pos h1]at hR
  have hb:(chkW ws != 0)=true:=by simpa using h1
  refine A0a C ?_;simp -implicitDefEqProofs [z.l1,eT,hb,hR]
 rw[if_neg (fun e=>e h1)]at hR;rw[h1]at eT;refine A0a C ?_;simp -implicitDefEqProofs [z.l1,eT];by_cases h2:st<0
 ·rw[if_pos (.inl h2)]at hR;refine A0a C ?_;simp -implicitDefEqProofs [z.l2,h2,hR]
 by_cases h3:2<st
 ·rw[if_pos (.inr h3)]at hR;refine A0a C ?_;simp -implicitDefEqProofs [z.l2,h2,h3,hR]
 rw[if_neg (fun e=>e.elim h2 h3)]at hR;refine A0a C ?_;simp -implicitDefEqProofs [z.l2,h2,h3];by_cases h4:256<ds.length
 ·rw[if_pos h4]at hR
  have hc:decide ((256:Int)<(ds.length:Int))=true:=by simpa using (by omega:(256:Int)<(ds.length:Int))
  refine A0a C ?_;simp -implicitDefEqProofs [z.l3,ldd,hc,hR]
 rw[if_neg h4]at hR
 have hc:decide ((256:Int)<(ds.length:Int))=false:=by simpa using (by omega:(ds.length:Int)<=256)
 refine A0a C ?_;simp -implicitDefEqProofs [z.l3,ldd,hc];refine A0o (α:=Unit) (fun _=>⟨[(1,.ptr 0 0)],[(0,X)],1,89⟩) (fun _=>R=chkG ⟨id,ws,st,ds,gold⟩) (fun _=>rfl) ?_ ?_
 ·refine A0a C ?_;simp -implicitDefEqProofs [z.l3,ldd];refine A0f ?_;refine A0k (SIt X td ds.length) (fun j=>ds.length-j) (fun j=>j<=ds.length/\(if A7y ws.length (ds.take j) (ds.drop j)≠0 then A7y ws.length (ds.take j) (ds.drop j)else chkG ⟨id,ws,st,ds,gold⟩)=R) 0 (fun _=>rfl) ⟨Nat.zero_le _,hR.symm⟩ ?_ rfl ?_
  ·refine A0d ?_;simp -implicitDefEqProofs [SIt]
  rintro j ⟨hj,heq⟩;by_cases hlt:j<ds.length
  ·obtain⟨d,hdx⟩:∃d,ds[j]?=some d:=⟨_,List.getElem?_eq_getElem hlt⟩
   obtain⟨pp,i1,ld5,_,_⟩:=B7u hd hdx;have e1:IntKind.i64.wrap ((j:Int)+1)=((j+1:Nat):Int):=A0h (by omega) (by omega);have eD:=F5o d.p (ws.length:Int) (hdn d (List.mem_of_getElem? hdx));have y:=L1 (A5r d) [];have ldp:∀R:Heap,A0g true 4 ((1,A5r d)::R) (.ptr 1 0)=some (.t (.ag (ePr.enc d.p))):=fun _=>rfl;have st5:=F8u d [(0,X)]
   have htk:ds.take j++[d]=ds.take (j+1):=by rw[List.take_add_one,hdx];rfl
   have hck:A7y ws.length (ds.take j) (ds.drop j)=if chkP d.p ws.length≠0 then chkP d.p ws.length else if((ds.take j).any fun y=>decide (y.p=d.p))then 4 else A7y ws.length (ds.take (j+1)) (ds.drop (j+1)):=by
    rw[List.drop_eq_getElem_cons hlt,(List.getElem?_eq_some_iff.1 hdx).2,A7y,htk]
   refine A0a C ?_;simp -implicitDefEqProofs [SIt,hlt];refine A3m ?_;refine A0c C ?_;simp -implicitDefEqProofs;refine⟨rfl,?_⟩;refine A3m ?_;refine A0f ?_;refine A0a C ?_;simp -implicitDefEqProofs [i1,ld5,st5];by_cases g1:chkP d.p ws.length=0
   rotate_left
   ·rw[if_pos g1]at hck;rw[hck,if_pos g1]at heq
    have hb:(R != 0)=true:=by rw[<-heq];simpa using g1
    refine A0a C ?_;simp -implicitDefEqProofs [ldp,y.l1,lw,eD,hb,heq,B0k]
   rw[if_neg (fun e=>e g1)]at hck;rw[g1]at eD;refine A0a C ?_;simp -implicitDefEqProofs [ldp,y.l1,lw,eD];obtain⟨t',sl,hsl⟩:=hd.slice_to (k:=j) (by omega) .i64;have sl:A5x 5 (.t td) none (some (.t (iv (j:Int))))=some (.t t'):=sl;have hcc:=B4u (q:=q) (F:=121) (first:=[]) (cap:=[.ptr 1 0]) (p:=fun y=>decide (y.p=d.p)) (H:=[(1,A5r d),(0,X)]) (nx:=2) hsl (by rw[List.length_take];omega) (fun y _=>E0p hXc d y)
   obtain⟨t1,o1,ok1⟩:∃t1,t1 [.t t',.fn (.func 121) [] [.ptr 1 0]] [(1,A5r d),(0,X)] 2=some (.t (bv ((ds.take j).any fun y=>decide (y.p=d.p))),[(1,A5r d),(0,X)],2)/\HOK Tryz.prog (G q) 112 t1:=⟨_,A3b _ _ _ _,A3h hcc (fun hf=>hf)⟩
   have C1:Ctx Tryz.prog (G q) _:=A0y.nil.ctxH (A2s.cons ok1 .nil) mixed;have mk:exM (.mkf (.func 121) 0) [.ptr 1 0]=some (.fn (.func 121) [] [.ptr 1 0]):=rfl
   cases hany:(ds.take j).any fun y=>decide (y.p=d.p)with
   | true=>
    rw[if_pos hany]at hck;rw[hck,if_pos (by omega)]at heq;rw[hany]at o1;refine A0c C1 ?_;simp -implicitDefEqProofs [y.l3,sl,mk,o1,<-heq,B0k]
   | false=>
    rw[if_neg (by simp[hany])]at hck;rw[hck]at heq;rw[hany]at o1;refine A0c C1 ?_;simp -implicitDefEqProofs [y.l3,sl,mk,o1];refine⟨rfl,?_⟩;refine A0c C ?_;simp -implicitDefEqProofs only[runsM_ops,runsL_cons,runsL_nil];simp -implicitDefEqProofs [e1];refine Abs.Next.mk (j+1) ⟨⟨by omega,by simpa using heq⟩,by omega⟩ ?_;refine B0z (by omega) (fun q hq=>?_) (by simp -implicitDefEqProofs [under]);simp only[List.mem_singleton]at hq;subst hq;obtain⟨ty,cs,rfl⟩:=hXc;exact⟨rfl,by show 0<1;omega,A2f _ _⟩
  ·rw[List.drop_of_length_le (by omega),A7y,if_neg (fun e=>e rfl)]at heq;refine A0c C ?_;simp -implicitDefEqProofs [SIt,hlt];exact Abs.Next.mk () heq.symm (A0d (by simp -implicitDefEqProofs))
 rintro _ hRG;have eP:=F5p hgD hWd
 have z0:=(IsD.enc A2c)
 have eC:=A9r hgD (IsD.enc A2c) hWd.2.2 (by decide);have bz:∀(Φ:A0v) (H:Heap) (nx:Nat),A0e Φ H nx (.build [(0,1),(1,1),(2,1),(3,1),(4,1)] [.int .i64 0,.string ⟨#[]⟩,.int .i64 0,.int .i64 0,.slice none 0 0] []) []=some (.t (.ag (encD A2c)),H,nx):=fun _ _ _=>bdZ5;unfold chkG at hRG;simp only[hg,Dv.frm,Dv.to]at hRG;have g5:=z.g;refine A0c C ?_;by_cases s1:st=1
 ·rw[if_pos s1]at hRG;by_cases s2:f=0
  ·by_cases s3:t=(ws.length:Int)
   ·rw[if_neg (by omega)]at hRG;rw[<-hg]at hRG;subst s1;subst s2;subst s3
    cases hsp:C5k gold with
    | true=>rw[hsp,if_pos rfl]at hRG;rw[hsp]at eP;simp -implicitDefEqProofs [z.l2,z.l6,z.l7,z.l1,lw,g5,eP,hRG]
    | false=>rw[hsp,if_neg (by simp)]at hRG;rw[hsp]at eP;simp -implicitDefEqProofs [z.l2,z.l6,z.l7,z.l1,lw,g5,eP,hRG]
   ·rw[if_pos (.inr s3)]at hRG
    have hb:(t !=(ws.length:Int))=true:=by simpa using s3
    simp -implicitDefEqProofs [z.l2,z.l6,z.l7,z.l1,lw,s1,s2,s3,hb,hRG]
  ·rw[if_pos (.inl s2)]at hRG
   have hb:(f != 0)=true:=by simpa using s2
   simp -implicitDefEqProofs [z.l2,z.l6,z.l7,z.l1,lw,s1,s2,hb,hRG]
 ·rw[if_neg s1]at hRG;rw[<-hg]at hRG
  have b1:(st==1)=false:=by simpa using s1
  have b2:(st != 1)=true:=by simpa using s1
  by_cases s4:cmpD gold A2c=0
  ·rw[if_pos s4]at hRG;simp -implicitDefEqProofs [z.l2,z.l6,z.l7,z.l1,lw,s1,b1,b2,g5,bz,eC,s4,hRG]
  ·rw[if_neg s4]at hRG
   have hb:(cmpD gold A2c != 0)=true:=by simpa using s4
   simp -implicitDefEqProofs [z.l2,z.l6,z.l7,z.l1,lw,s1,b1,b2,g5,bz,eC,hb,hRG]
noncomputable def gItm:List T->Option T:=g1 tIt fun c=>open Classical in if SmI c.x then some (iv (chkR c.x))else none
theorem hItm:GOK Tryz.prog (G q) 69 gItm:=A4c fun a c r ha hr=>by
 split at hr
 ·rename_i h;injection hr with hr;subst hr;have ha:a = .ag c.cs:=ha;subst ha;exact E6v c.ok h
 ·cases hr
theorem F5q (c:IC) (h:SmI c.x):gItm [.ag c.cs]=some (iv (chkR c.x)):=by
 show g1 _ _ _=_;rw[A5b (τ:=tIt) (x:=c) rfl,if_pos h]
theorem B7y {u:T} {l:List IC} (h:IsS eIC u l) {i:Nat} {c:IC} (hx:l[i]?=some c):∃p,A1o 9 (.t u) (.t (iv (i:Int)))=some (.t (.pt p))/\(∀H,A0g true 9 H (.t (.pt p))=some (.t (.ag c.cs))) /\
  (∀H,A0g false 1 H (.t (.pt p))=some (.t (sv c.x.id))):=by
 refine⟨_,h.iaddr hx .i64,fun H=>?_,fun H=>?_⟩
 ·have hl:c.cs.length=9:=c.ok.len;simp only[A0g,if_true];rw[if_pos (by simp[eIC,hl])];show some (PV.t (T.ag (List.take 9 (c.cs++_))))=_;rw[List.take_left' hl]
 ·obtain⟨tw,td,g,e,_,_,_⟩:=c.ok;show A0g false 1 H (.t (.pt (c.cs++rest eIC l i)))=_;rw[e];rfl
def A6l (l:List IC) (j:Nat):Option ByteArray:=match j with
 | 0=>none
 | k+1=>(l[k]?).map (·.x.id)
structure SmB (ver:ByteArray) (l:List IC):Prop where
 ver:ver.size<=lim
 len:l.length<=1000000
 items:∀c∈l,SmI c.x
def bRow (ver:ByteArray) (u:T):Row:=.cells 39 [.t (sv ver),.t u]
structure LdB (ver:ByteArray) (u:T) (H:Heap) (b:Nat):Prop where
 l0:A0g false 1 H (.ptr b 0)=some (.t (sv ver))
 l1:A0g false 1 H (.ptr b 1)=some (.t u)
 a:A0g true 2 H (.ptr b 0)=some (.t (.ag [sv ver,u]))
theorem ldB {ver:ByteArray} {u:T} {H:Heap} {b:Nat} (h:Abs.look H b=some (bRow ver u)):LdB ver u H b:=by
 constructor<;>simp[A0g,h,bRow,agOf,allT]
theorem st_it (H:Heap) (id:ByteArray) (tw:T) (st:Int) (td:T) (k:Int) (nm:ByteArray) (f t:Int) (tk:T) :
  A0t 9 ((1,Row.cells 28 [.t (.v (.string ⟨#[]⟩)),.t nilS,.t (.v (.int .i64 0)),.t nilS,.t (.v (.int .i64 0)),.t (.v (.string ⟨#[]⟩)),.t (.v (.int .i64 0)),.t (.v (.int .i64 0)),.t nilS])::H) (.ptr 1 0) (.t (.ag [sv id,tw,iv st,td,iv k,sv nm,iv f,iv t,tk]))=some ((1,iRow id tw st td k nm f t tk)::H):=rfl
theorem D0o (p id:ByteArray):(!(A8i p id))=C5l (some p) id:=by
 unfold C5l;rw[A5v];by_cases h:lbs p<lbs id
 ·simp[cmpS,h,List.lt_asymm h]
 ·by_cases k:lbs id<lbs p
  ·simp[cmpS,h,k]
  ·simp[cmpS,h,k]
def SCk (X:Row) (u:T) (n j:Nat):A0b:=⟨[(17,.t (iv (j:Int))),(16,.t (iv (n:Int))),(15,.t u),(1,.ptr 0 0)],[(0,X)],1,46⟩
set_option maxHeartbeats 2000000 in
theorem E0q {ver:ByteArray} {u:T} {l:List IC} (hu:IsS eIC u l) (hs:SmB ver l):A0w Tryz.prog (G q) 37 [.ag [sv ver,u]] (· = iv (chkT ⟨ver,l.map IC.x⟩)):=by
 have cd:A1m (.t (.ag [sv ver,u]))=some [.t (sv ver),.t u]:=rfl;have lu:=hu.len;have eV:=B2j hs.ver;have hll:=hs.len
 obtain⟨X,hX⟩:∃X,X=bRow ver u:=⟨_,rfl⟩
 have hXc:∃(ty:Nat) (cs:List T),X = .cells ty (cs.map .t):=⟨_,[sv ver,u],hX⟩
 have L0:∀R:Heap,LdB ver u ((0,X)::R) 0:=fun R=>ldB (by rw[hX];rfl);have L1:∀(Y:Row) (R:Heap),LdB ver u ((1,Y)::(0,X)::R) 0:=fun Y R=>ldB (by rw[hX];rfl);have C:Ctx Tryz.prog (G q) _:=(A0y.cons (hNm (q:=q)) (.cons (hItm (q:=q)) .nil)).ctx mixed;refine B7w.call rfl ?_;unfold A9u
 obtain⟨R,hR⟩:∃R,R=chkT ⟨ver,l.map IC.x⟩:=⟨_,rfl⟩
 rw[<-hR];rw[chkT]at hR;simp only[List.length_map]at hR;have z:=L0 [];refine A0a C ?_;simp -implicitDefEqProofs [cd];rw[show Row.cells 39 [.t (sv ver),.t u]=X from hX.symm]
 cases h1:A1e false ver with
 | false=>
  rw[if_pos h1]at hR;rw[h1]at eV;refine A0a C ?_;simp -implicitDefEqProofs [z.l0,eV,hR]
 | true=>
 rw[if_neg (by rw[h1];decide)]at hR;rw[h1]at eV;refine A0a C ?_;simp -implicitDefEqProofs [z.l0,eV];by_cases h4:256<l.length
 ·rw[if_pos h4]at hR
  have hc:decide ((256:Int)<(l.length:Int))=true:=by simpa using (by omega:(256:Int)<(l.length:Int))
  refine A0a C ?_;simp -implicitDefEqProofs [z.l1,lu,hc,hR]
 rw[if_neg h4]at hR
 have hc:decide ((256:Int)<(l.length:Int))=false:=by simpa using (by omega:(l.length:Int)<=256)
 refine A0a C ?_;simp -implicitDefEqProofs [z.l1,lu,hc];refine A0o (α:=Unit) (fun _=>⟨[(1,.ptr 0 0)],[(0,X)],1,46⟩) (fun _=>R=0) (fun _=>rfl) ?_ ?_
 ·refine A0a C ?_;simp -implicitDefEqProofs [z.l1,lu];refine A0f ?_;refine A0k (SCk X u l.length) (fun j=>l.length-j) (fun j=>j<=l.length/\R=chkL (A6l l j) ((l.map IC.x).drop j)) 0 (fun _=>rfl) ⟨Nat.zero_le _,hR⟩ ?_ rfl ?_
  ·refine A0d ?_;simp -implicitDefEqProofs [SCk]
  rintro j ⟨hj,heq⟩;by_cases hlt:j<l.length
  ·obtain⟨c,hc⟩:∃c,l[j]?=some c:=⟨_,List.getElem?_eq_getElem hlt⟩
   obtain⟨pp,i1,ld9,_⟩:=B7y hu hc;have hsc:=hs.items c (List.mem_of_getElem? hc);have eI:=F5q c hsc;have eN:=B2j hsc.id
   have hd:(l.map IC.x).drop j=c.x::(l.map IC.x).drop (j+1):=by
    rw[List.drop_eq_getElem_cons (by simpa using hlt),List.getElem_map,(List.getElem?_eq_some_iff.1 hc).2]
   have hpn:A6l l (j+1)=some c.x.id:=by simp[A6l,hc]
   rw[hd,chkL,<-hpn]at heq;have e1:IntKind.i64.wrap ((j:Int)+1)=((j+1:Nat):Int):=A0h (by omega) (by omega);obtain⟨tw,td,k,nm,f,t,tk,ks,ecs,_⟩:=A1a c.ok;rw[ecs]at ld9 eI;have y:=L1 (iRow c.x.id tw c.x.state td k nm f t tk) [];have yI:=ldI c.x.id tw c.x.state td k nm f t tk (H:=[(1,iRow c.x.id tw c.x.state td k nm f t tk),(0,X)]) (b:=1) rfl;have st9:=st_it [(0,X)] c.x.id tw c.x.state td k nm f t tk;refine A0a C ?_;simp -implicitDefEqProofs [SCk,hlt];refine A3m ?_;refine A0c C ?_;simp -implicitDefEqProofs;refine⟨rfl,?_⟩;refine A3m ?_;refine A0f ?_;refine A0a C ?_;simp -implicitDefEqProofs [i1,ld9,st9]
   cases g1:A1e false c.x.id with
   | false=>
    rw[if_pos g1]at heq;rw[g1]at eN;refine A0a C ?_;simp -implicitDefEqProofs [yI.l0,eN,heq,B0k]
   | true=>
   rw[if_neg (by rw[g1];decide)]at heq;rw[g1]at eN;refine A0a C ?_;simp -implicitDefEqProofs [yI.l0,eN];refine A0o (α:=Unit) (fun _=>⟨[(17,.t (iv (j:Int))),(16,.t (iv (l.length:Int))),(15,.t u),(4,.ptr 1 0),(1,.ptr 0 0)],[(1,iRow c.x.id tw c.x.state td k nm f t tk),(0,X)],2,46⟩) (fun _=>C5l (A6l l j) c.x.id=false) (fun _=>rfl) ?_ ?_
   ·by_cases h0:j=0
    ·have hl:C5l (A6l l j) c.x.id=false:=by rw[h0];rfl
     have b1:decide (0<j)=false:=by simpa using h0
     refine A0c C ?_;simp -implicitDefEqProofs [b1];refine Abs.Next.mk () hl ?_;exact A0d (by simp -implicitDefEqProofs)
    ·have hj1:j-1<l.length:=by omega
     obtain⟨c0,hc0⟩:∃c,l[j-1]?=some c:=⟨_,List.getElem?_eq_getElem hj1⟩
     obtain⟨pp0,i0,_,ldid⟩:=B7y hu hc0
     have hp:A6l l j=some c0.x.id:=by
      obtain⟨j',rfl⟩:∃j',j=j'+1:=⟨j-1,by omega⟩
      simp at hc0;simp[A6l,hc0]
     have b0:0<j:=by omega
     have e0:IntKind.i64.wrap ((j:Int)-1)=((j-1:Nat):Int):=by rw[show(j:Int)-1=((j-1:Nat):Int)by omega];exact A0h rfl (by omega)
     have hless:=D0o c0.x.id c.x.id;rw[<-hp]at hless
     cases hl:C5l (A6l l j) c.x.id with
     | true=>
      rw[hl]at hless;rw[if_pos hl]at heq;refine A0c C ?_;simp -implicitDefEqProofs [b0,yI.l0,y.l1,e0,i0,ldid,hless,heq,B0k]
     | false=>
      rw[hl]at hless;refine A0c C ?_;simp -implicitDefEqProofs [b0,yI.l0,y.l1,e0,i0,ldid,hless];refine Abs.Next.mk () (by simp[hl]) ?_;exact A0d (by simp -implicitDefEqProofs)
   rintro _ hl;rw[if_neg (by rw[hl];decide)]at heq;by_cases g2:chkR c.x=0
   ·rw[if_neg (fun e=>e g2)]at heq;rw[g2]at eI;refine A0c C ?_;simp -implicitDefEqProofs [yI.a,eI];refine⟨rfl,?_⟩;refine A0c C ?_;simp -implicitDefEqProofs only[runsM_ops,runsL_cons,runsL_nil];simp -implicitDefEqProofs [e1];refine Abs.Next.mk (j+1) ⟨⟨by omega,heq⟩,by omega⟩ ?_;refine B0z (by omega) (fun q hq=>?_) (by simp -implicitDefEqProofs [under]);simp only[List.mem_singleton]at hq;subst hq;obtain⟨ty,cs,rfl⟩:=hXc;exact⟨rfl,by show 0<1;omega,A2f _ _⟩
   ·rw[if_pos g2]at heq
    have hb:(R != 0)=true:=by rw[heq];simpa using g2
    refine A0c C ?_;simp -implicitDefEqProofs [yI.a,eI,<-heq,hb,B0k]
  ·rw[List.drop_of_length_le (by simp;omega),chkL]at heq;refine A0c C ?_;simp -implicitDefEqProofs [SCk,hlt];exact Abs.Next.mk () heq (A0d (by simp -implicitDefEqProofs))
 rintro _ hRG;refine A0c C ?_;simp -implicitDefEqProofs [hRG]
def D0p:A0i:=(jO [jM 2 .mv [jF]] (.seq (jO [jM 3 .mv [jI 0]] (.block 0 (.loop (.seq (jO [jV 4 3,jV 5 0,jM 6 .lensl [jT 5],jM 7 (jB .lss) [jT 4,jT 6]] (.cond (jT 7) .skip (.exit 0))) (.seq (.block 1 (jO [jV 10 3,jM 11 (jB .geq) [jT 10,(jI 8)],jV 12 11,jX 13 0 12 false,jX 14 3 12 false,jG 15 (.iaddr 5) [jT 13,jT 14] 12 false,jG 16 (.load true 5) [jT 15] 12 false,jG 17 (.call 51) [jT 16,(jI 20)] 12 false,jG 18 (.un .not) [jT 17] 12 false,jM 19 .pick [jT 12,jW,jT 18]] (.cond (jT 19) (jO [jM 2 .mv [jF]] .ret) .skip))) (.ops [jV 8 3,jM 9 (jB .add) [jT 8,(jI 1)],jV 3 9])))))) (jO [jM 2 .mv [jW]] .ret)))
theorem E6w {q:Gl}:FnOK Tryz.prog (G q) 17 1 20 D0p [(.tmp 2)]:=⟨Tryz.f17,Tryz.func17,by kernel_rfl,by kernel_rfl,by kernel_rfl,by kernel_rfl⟩
def A7t:A0i:=(jO [jM 0 .mv [jF]] (jO [jM 18 (.call 52) [],jV 1 18] (jO [jM 19 (.bslice 9 1 [(.string ⟨#[]⟩)] 2 [0,1]) [(.k (.t (.v (.string ⟨#[97]⟩)))),(.k (.t (.v (.string ⟨#[98]⟩))))],jM 20 (.build [(0,1),(1,1),(2,1),(3,1)] [(.int .i64 0),(.string ⟨#[]⟩),(.int .i64 0),(.int .i64 0)] [0,1,3]) [jI 2,(.k (.t (.v (.string ⟨#[110,112]⟩)))),(jI 2)],jM 21 (.build [(0,4),(4,1)] [(.int .i64 0),(.string ⟨#[]⟩),(.int .i64 0),(.int .i64 0),(.bool false)] [0,1]) [jT 20,jW],jM 22 (.bslice 61 5 [(.int .i64 0),(.string ⟨#[]⟩),(.int .i64 0),(.int .i64 0),(.bool false)] 1 [0]) [jT 21],jV 23 1,jM 24 (.iaddr 5) [jT 23,(jI 0)],jM 25 (.load true 5) [jT 24],jM 26 (.build [(0,1),(1,1),(2,1),(3,1),(4,5)] [(.string ⟨#[]⟩),(.slice none 0 0),(.int .i64 0),(.slice none 0 0),(.int .i64 0),(.string ⟨#[]⟩),(.int .i64 0),(.int .i64 0),(.slice none 0 0)] [0,1,2,3,4]) [(.k (.t (.v (.string ⟨#[105]⟩)))),jT 19,(jI 1),jT 22,jT 25],jM 2 (.alloc 28 [(.string ⟨#[]⟩),(.slice none 0 0),(.int .i64 0),(.slice none 0 0),(.int .i64 0),(.string ⟨#[]⟩),(.int .i64 0),(.int .i64 0),(.slice none 0 0)]) [],⟨none,.store 9,[jT 2,jT 26],none⟩] (jO [jM 28 (.load true 9) [jT 2],jV 29 1,jM 30 (.call 19) [jT 28,jT 29],jV 27 30,jM 31 (.ext 0) [jT 27],jM 32 (.ext 1) [jT 27],jM 33 (.ext 2) [jT 27],jM 3 (.alloc 28 [(.string ⟨#[]⟩),(.slice none 0 0),(.int .i64 0),(.slice none 0 0),(.int .i64 0),(.string ⟨#[]⟩),(.int .i64 0),(.int .i64 0),(.slice none 0 0)]) [],⟨none,.store 9,[jT 3,jT 31],none⟩,jV 4 32,jV 5 33] (.seq (.draw [jM 35 (.load true 9) [jT 2],jV 36 1,jM 37 (.slice 5 true false) [jT 36,(jI 1)],jM 38 (.call 19) [jT 35,jT 37],jV 34 38,jM 39 (.ext 0) [jT 34],jM 40 (.ext 1) [jT 34],jM 41 (.ext 2) [jT 34],jM 6 (.alloc 28 [(.string ⟨#[]⟩),(.slice none 0 0),(.int .i64 0),(.slice none 0 0),(.int .i64 0),(.string ⟨#[]⟩),(.int .i64 0),(.int .i64 0),(.slice none 0 0)]) [],⟨none,.store 9,[jT 6,jT 39],none⟩,jV 7 40,jV 8 41]) (.seq (.draw [jM 43 (.load true 9) [jT 2],jV 44 1,jM 45 (.iaddr 5) [jT 44,(jI 1)],jM 46 (.load true 5) [jT 45],jV 47 1,jM 48 (.iaddr 5) [jT 47,(jI 0)],jM 49 (.faddr 4) [jT 48],jM 50 jL [jT 49],jM 51 (.build [(0,1),(1,1),(2,1),(3,1),(4,1)] [(.int .i64 0),(.string ⟨#[]⟩),(.int .i64 0),(.int .i64 0),(.slice none 0 0)] [0,1,3,4]) [jI 2,(.k (.t (.v (.string ⟨#[120,112]⟩)))),(jI 2),jT 50],jM 52 (.tslice 26 5 [(.int .i64 0),(.string ⟨#[]⟩),(.int .i64 0),(.int .i64 0),(.slice none 0 0)] 2 [0,1]) [jT 46,jT 51],jM 53 (.call 19) [jT 43,jT 52],jV 42 53,jM 54 (.ext 0) [jT 42],jM 55 (.ext 1) [jT 42],jM 56 (.ext 2) [jT 42],jM 9 (.alloc 28 [(.string ⟨#[]⟩),(.slice none 0 0),(.int .i64 0),(.slice none 0 0),(.int .i64 0),(.string ⟨#[]⟩),(.int .i64 0),(.int .i64 0),(.slice none 0 0)]) [],⟨none,.store 9,[jT 9,jT 54],none⟩,jV 10 55,jV 11 56]) (.seq (.draw [jM 58 (.load true 9) [jT 2],jV 59 1,jM 60 (.iaddr 5) [jT 59,(jI 1)],jM 61 (.load true 5) [jT 60],jV 62 1,jM 63 (.iaddr 5) [jT 62,(jI 0)],jM 64 (.load true 5) [jT 63],jM 65 (.tslice 26 5 [(.int .i64 0),(.string ⟨#[]⟩),(.int .i64 0),(.int .i64 0),(.slice none 0 0)] 2 [0,1]) [jT 61,jT 64],jM 66 (.call 19) [jT 58,jT 65],jV 57 66,jM 67 (.ext 0) [jT 57],jM 68 (.ext 1) [jT 57],jM 69 (.ext 2) [jT 57],jM 12 (.alloc 28 [(.string ⟨#[]⟩),(.slice none 0 0),(.int .i64 0),(.slice none 0 0),(.int .i64 0),(.string ⟨#[]⟩),(.int .i64 0),(.int .i64 0),(.slice none 0 0)]) [],⟨none,.store 9,[jT 12,jT 67],none⟩,jV 13 68,jV 14 69]) (.seq (.draw [jM 71 (.load true 9) [jT 2],jM 72 (.tslice 28 9 [(.string ⟨#[]⟩),(.slice none 0 0),(.int .i64 0),(.slice none 0 0),(.int .i64 0),(.string ⟨#[]⟩),(.int .i64 0),(.int .i64 0),(.slice none 0 0)] 1 [0]) [jT 71],jM 73 (.build [(0,1),(1,1)] [(.string ⟨#[]⟩),(.slice none 0 0)] [0,1]) [(.k (.t (.v (.string ⟨#[118,49]⟩)))),jT 72],jV 74 1,jM 75 (.slice 5 true false) [jT 74,(jI 1)],jM 76 (.tslice 24 1 [(.slice none 0 0)] 1 [0]) [jT 75],jM 77 (.call 23) [jT 73,(.k (.t (.v (.string ⟨#[118,50]⟩)))),jT 76],jV 70 77,jM 78 (.ext 0) [jT 70],jM 79 (.ext 1) [jT 70],jM 80 (.ext 2) [jT 70],jM 15 (.alloc 39 [(.string ⟨#[]⟩),(.slice none 0 0)]) [],⟨none,.store 2,[jT 15,jT 78],none⟩,jV 16 79,jV 17 80]) (jO [jV 81 5,jM 82 (jB .eql) [jT 81,(jI 0)],jV 83 82,jX 84 4 83 true,jG 85 (jB .eql) [jT 84,(jI 0)] 83 true,jM 86 .pick [jT 83,jT 85,jF],jV 87 86,jG 88 (.load true 9) [jT 2] 87 true,jG 89 (.load true 9) [jT 3] 87 true,jG 90 (.call 21) [jT 88,jT 89] 87 true,jM 91 .pick [jT 87,jT 90,jF],jV 92 91,jX 93 8 92 true,jG 94 (jB .eql) [jT 93,(jI 0)] 92 true,jM 95 .pick [jT 92,jT 94,jF],jV 96 95,jX 97 7 96 true,jG 98 (jB .eql) [jT 97,(jI 1)] 96 true,jM 99 .pick [jT 96,jT 98,jF],jV 100 99,jG 101 (.faddr 2) [jT 6] 100 true,jG 102 jL [jT 101] 100 true,jG 103 (jB .eql) [jT 102,(jI 1)] 100 true,jM 104 .pick [jT 100,jT 103,jF],jV 105 104,jG 106 (.faddr 3) [jT 6] 105 true,jG 107 jL [jT 106] 105 true,jG 108 .lensl [jT 107] 105 true,jG 109 (jB .eql) [jT 108,(jI 0)] 105 true,jM 110 .pick [jT 105,jT 109,jF],jV 111 110,jG 112 (.faddr 4) [jT 6] 111 true,jG 113 (.faddr 1) [jT 112] 111 true,jG 114 jL [jT 113] 111 true,jG 115 (jB .eql) [jT 114,(.k (.t (.v (.string ⟨#[118,112]⟩))))] 111 true,jM 116 .pick [jT 111,jT 115,jF],jV 117 116,jX 118 11 117 true,jG 119 (jB .eql) [jT 118,(jI 0)] 117 true,jM 120 .pick [jT 117,jT 119,jF],jV 121 120,jX 122 10 121 true,jG 123 (jB .eql) [jT 122,(jI 1)] 121 true,jM 124 .pick [jT 121,jT 123,jF],jV 125 124,jG 126 (.faddr 2) [jT 9] 125 true,jG 127 jL [jT 126] 125 true,jG 128 (jB .eql) [jT 127,(jI 0)] 125 true,jM 129 .pick [jT 125,jT 128,jF],jV 130 129,jX 131 14 130 true,jG 132 (jB .eql) [jT 131,(jI 3)] 130 true,jM 133 .pick [jT 130,jT 132,jF],jV 134 133,jX 135 17 134 true,jG 136 (jB .eql) [jT 135,(jI 0)] 134 true,jM 137 .pick [jT 134,jT 136,jF],jV 138 137,jX 139 16 138 true,jG 140 .lensl [jT 139] 138 true,jG 141 (jB .eql) [jT 140,(jI 1)] 138 true,jM 142 .pick [jT 138,jT 141,jF],jV 143 142,jX 144 16 143 true,jG 145 (.iaddr 3) [jT 144,(jI 0)] 143 true,jG 146 (.load true 3) [jT 145] 143 true,jG 147 (.build [(0,1),(1,1),(2,1)] [(.string ⟨#[]⟩),(.int .i64 0),(.int .i64 0)] [0,1,2]) [(.k (.t (.v (.string ⟨#[105]⟩)))),(jI 1),(jI 1)] 143 true,jG 148 (.ex (.eqs false [.s,.i,.i])) [jT 146,jT 147] 143 true,jM 149 .pick [jT 143,jT 148,jF],jV 0 149] .ret)))))))))
theorem B4y {q:Gl}:FnOK Tryz.prog (G q) 18 0 150 A7t [(.tmp 0)]:=⟨Tryz.f18,Tryz.func18,by kernel_rfl,by kernel_rfl,by kernel_rfl,by kernel_rfl⟩
def B1h:A0i:=(jO [jM 2 (.box 28) [jT 0],jM 4 (.alloc 28 [(.string ⟨#[]⟩),(.slice none 0 0),(.int .i64 0),(.slice none 0 0),(.int .i64 0),(.string ⟨#[]⟩),(.int .i64 0),(.int .i64 0),(.slice none 0 0)]) [],jM 5 .mv [jI 0],jM 6 .mv [jI 0]] (.seq (jO [jV 10 1,jM 11 (.call 53) [jT 10],jM 12 (.un .not) [jT 11]] (.cond (jT 12) (jO [jM 13 (.load true 9) [jT 2],⟨none,.store 9,[jT 4,jT 13],none⟩,jM 5 .mv [jI 0],jM 6 .mv [jI 3]] .ret) .skip)) (jO [jM 14 (.faddr 3) [jT 2],jM 15 jL [jT 14],jV 16 1,jM 17 (.call 54) [jT 15,jT 16],jV 7 17] (jO [jM 18 (.faddr 0) [jT 2],jM 19 jL [jT 18],jM 20 (.faddr 1) [jT 2],jM 21 jL [jT 20],jM 22 (.faddr 2) [jT 2],jM 23 jL [jT 22],jV 24 7,jM 25 (.build [(0,1),(1,1),(2,1),(3,1),(4,5)] [(.string ⟨#[]⟩),(.slice none 0 0),(.int .i64 0),(.slice none 0 0),(.int .i64 0),(.string ⟨#[]⟩),(.int .i64 0),(.int .i64 0),(.slice none 0 0)] [0,1,2,3]) [jT 19,jT 21,jT 23,jT 24],jM 8 (.alloc 28 [(.string ⟨#[]⟩),(.slice none 0 0),(.int .i64 0),(.slice none 0 0),(.int .i64 0),(.string ⟨#[]⟩),(.int .i64 0),(.int .i64 0),(.slice none 0 0)]) [],⟨none,.store 9,[jT 8,jT 25],none⟩] (.seq (jO [jM 26 (.faddr 2) [jT 2],jM 27 jL [jT 26],jM 28 (jB .eql) [jT 27,(jI 1)]] (.cond (jT 28) (jO [jM 29 (.faddr 2) [jT 8],⟨none,.store 1,[jT 29,(jI 0)],none⟩] (jO [jV 30 1,jV 31 7,jM 32 (.call 30) [jT 30,jT 31],jV 9 32] (jO [jV 33 9,jM 34 .lensl [jT 33],jM 35 (jB .eql) [jT 34,(jI 1)]] (.cond (jT 35) (jO [jM 36 (.faddr 2) [jT 8],⟨none,.store 1,[jT 36,(jI 1)],none⟩] (.ops [jV 37 1,jV 38 9,jM 39 (.iaddr 1) [jT 38,(jI 0)],jM 40 jL [jT 39],jM 41 (.iaddr 5) [jT 37,jT 40],jM 42 (.load true 5) [jT 41],jM 43 (.faddr 4) [jT 8],⟨none,.store 5,[jT 43,jT 42],none⟩])) .skip)))) .skip)) (.seq (.drawG 0 [(.o ⟨some 44,.load true 9,[jT 8],none⟩ false []),(.o ⟨some 45,.faddr 3,[jT 2],none⟩ false []),(.o ⟨some 46,.load false 1,[jT 45],none⟩ true []),(.o ⟨some 47,.lensl,[jT 46],none⟩ false []),(.o ⟨some 48,.mv,[jT 7],none⟩ false []),(.o ⟨some 49,.lensl,[jT 48],none⟩ false []),(.o ⟨some 50,.bin false .sub none,[jT 47,jT 49],none⟩ false []),(.o ⟨none,.store 9,[jT 4,jT 44],none⟩ false [2]),(.o ⟨some 5,.mv,[jT 50],none⟩ false []),(.o ⟨some 6,.mv,[jI 0],none⟩ false [])]) .ret))))))
theorem C1e {q:Gl}:FnOK Tryz.prog (G q) 19 2 51 B1h [(.cell 4 true 9),(.tmp 5),(.tmp 6)]:=⟨Tryz.f19,Tryz.func19,by kernel_rfl,by kernel_rfl,by kernel_rfl,by kernel_rfl⟩
def B2k:A0i:=(jO [jM 2 (.box 28) [jT 0],jM 3 (.box 28) [jT 1],jM 4 .mv [jF]] (.seq (jO [jM 6 (.faddr 0) [jT 2],jM 7 jL [jT 6],jM 8 (.faddr 0) [jT 3],jM 9 jL [jT 8],jM 10 (jB .neq) [jT 7,jT 9],jV 11 10,jG 12 (.faddr 2) [jT 2] 11 false,jG 13 jL [jT 12] 11 false,jG 14 (.faddr 2) [jT 3] 11 false,jG 15 jL [jT 14] 11 false,jG 16 (jB .neq) [jT 13,jT 15] 11 false,jM 17 .pick [jT 11,jW,jT 16],jV 18 17,jG 19 (.faddr 1) [jT 2] 18 false,jG 20 jL [jT 19] 18 false,jG 21 (.faddr 1) [jT 3] 18 false,jG 22 jL [jT 21] 18 false,jG 23 (.call 57) [jT 20,jT 22] 18 false,jG 24 (.un .not) [jT 23] 18 false,jM 25 .pick [jT 18,jW,jT 24],jV 26 25,jG 27 (.faddr 4) [jT 2] 26 false,jG 28 (.load true 5) [jT 27] 26 false,jG 29 (.faddr 4) [jT 3] 26 false,jG 30 (.load true 5) [jT 29] 26 false,jG 31 (.call 31) [jT 28,jT 30] 26 false,jG 32 (jB .neq) [jT 31,(jI 0)] 26 false,jM 33 .pick [jT 26,jW,jT 32],jV 34 33,jG 35 (.faddr 3) [jT 2] 34 false,jG 36 jL [jT 35] 34 false,jG 37 .lensl [jT 36] 34 false,jG 38 (.faddr 3) [jT 3] 34 false,jG 39 jL [jT 38] 34 false,jG 40 .lensl [jT 39] 34 false,jG 41 (jB .neq) [jT 37,jT 40] 34 false,jM 42 .pick [jT 34,jW,jT 41]] (.cond (jT 42) (jO [jM 4 .mv [jF]] .ret) .skip)) (.seq (jO [jM 5 .mv [jI 0]] (.block 0 (.loop (.seq (jO [jV 43 5,jM 44 (.faddr 3) [jT 2],jM 45 jL [jT 44],jM 46 .lensl [jT 45],jM 47 (jB .lss) [jT 43,jT 46]] (.cond (jT 47) .skip (.exit 0))) (.seq (.block 1 (.seq (.draw [jM 50 (.faddr 3) [jT 2],jM 51 jL [jT 50],jV 52 5,jM 53 (.iaddr 5) [jT 51,jT 52],jM 54 (.load true 5) [jT 53],jM 55 (.faddr 3) [jT 3],jM 56 jL [jT 55],jV 57 5,jM 58 (.iaddr 5) [jT 56,jT 57],jM 59 (.load true 5) [jT 58],jM 60 (.ex (.eqs true [.i,.s,.i,.i,.b])) [jT 54,jT 59]]) (.cond (jT 60) (jO [jM 4 .mv [jF]] .ret) .skip))) (.ops [jV 48 5,jM 49 (jB .add) [jT 48,(jI 1)],jV 5 49])))))) (jO [jM 4 .mv [jW]] .ret))))
theorem C2d {q:Gl}:FnOK Tryz.prog (G q) 21 2 61 B2k [(.tmp 4)]:=⟨Tryz.f21,Tryz.func21,by kernel_rfl,by kernel_rfl,by kernel_rfl,by kernel_rfl⟩
def C1f:A0i:=(jO [jM 1 (.box 28) [jT 0],jM 2 .mv [jF]] (jO [jM 3 (.faddr 3) [jT 1],jM 4 jL [jT 3],jM 5 .lensl [jT 4],jM 6 (jB .leq) [jT 5,(jI 12)],jV 7 6,jG 8 (.faddr 1) [jT 1] 7 true,jG 9 jL [jT 8] 7 true,jG 10 .lensl [jT 9] 7 true,jG 11 (jB .leq) [jT 10,(jI 8)] 7 true,jM 12 .pick [jT 7,jT 11,jF],jV 13 12,jG 14 (.faddr 4) [jT 1] 13 true,jG 15 (.load true 5) [jT 14] 13 true,jG 16 (.call 51) [jT 15,(jI 20)] 13 true,jM 17 .pick [jT 13,jT 16,jF],jV 2 17] .ret))
theorem D3t {q:Gl}:FnOK Tryz.prog (G q) 22 1 18 C1f [(.tmp 2)]:=⟨Tryz.f22,Tryz.func22,by kernel_rfl,by kernel_rfl,by kernel_rfl,by kernel_rfl⟩
def B1i:A0i:=(jO [jM 3 (.box 39) [jT 0],jM 6 (.alloc 39 [(.string ⟨#[]⟩),(.slice none 0 0)]) [],jM 7 .mv [jN],jM 8 .mv [jI 0]] (.seq (jO [jM 17 (.load true 2) [jT 3],jM 18 (.call 37) [jT 17],jV 9 18] (.block 0 (jO [jV 20 9,jM 21 (jB .neq) [jT 20,(jI 0)],jV 19 21] (.cond (jT 19) (jO [jM 22 (.load true 2) [jT 3],jV 23 9,⟨none,.store 2,[jT 6,jT 22],none⟩,jM 7 .mv [jN],jV 8 23] .ret) (jO [jV 25 1,jM 26 (.call 58) [jT 25],jM 27 (.un .not) [jT 26],jV 24 27] (.cond (jT 24) (jO [jM 28 (.load true 2) [jT 3],⟨none,.store 2,[jT 6,jT 28],none⟩,jM 7 .mv [jN],jM 8 .mv [jI 1]] .ret) (jO [jV 30 2,jM 31 .lensl [jT 30],jM 32 (.faddr 1) [jT 3],jM 33 jL [jT 32],jM 34 .lensl [jT 33],jM 35 (jB .neq) [jT 31,jT 34],jV 29 35] (.cond (jT 29) (jO [jM 36 (.load true 2) [jT 3],⟨none,.store 2,[jT 6,jT 36],none⟩,jM 7 .mv [jN],jM 8 .mv [jI 17]] .ret) .skip)))))))) (jO [jV 37 1,jM 38 (.build [(0,1),(1,1)] [(.string ⟨#[]⟩),(.slice none 0 0)] [0]) [jT 37],jM 10 (.alloc 39 [(.string ⟨#[]⟩),(.slice none 0 0)]) [],⟨none,.store 2,[jT 10,jT 38],none⟩] (jO [jM 11 .mv [jN]] (.seq (jO [jM 39 (.faddr 1) [jT 3],jM 40 jL [jT 39],jM 41 .lensl [jT 40],jM 42 .mv [jI 0]] (.block 1 (.loop (jO [jM 43 (jB .lss) [jT 42,jT 41]] (.seq (.cond (jT 43) .skip (.exit 1)) (.seq (.block 2 (jO [jV 44 42,jM 45 (.iaddr 9) [jT 40,jT 42],jM 46 (.load true 9) [jT 45],jM 13 (.alloc 28 [(.string ⟨#[]⟩),(.slice none 0 0),(.int .i64 0),(.slice none 0 0),(.int .i64 0),(.string ⟨#[]⟩),(.int .i64 0),(.int .i64 0),(.slice none 0 0)]) [],jV 12 44,⟨none,.store 9,[jT 13,jT 46],none⟩] (.seq (.draw [jM 48 (.load true 9) [jT 13],jV 49 2,jV 50 12,jM 51 (.iaddr 1) [jT 49,jT 50],jM 52 jL [jT 51],jM 53 (.call 19) [jT 48,jT 52],jV 47 53,jM 54 (.ext 0) [jT 47],jM 55 (.ext 1) [jT 47],jM 56 (.ext 2) [jT 47],jM 14 (.alloc 28 [(.string ⟨#[]⟩),(.slice none 0 0),(.int .i64 0),(.slice none 0 0),(.int .i64 0),(.string ⟨#[]⟩),(.int .i64 0),(.int .i64 0),(.slice none 0 0)]) [],⟨none,.store 9,[jT 14,jT 54],none⟩,jV 15 55,jV 16 56]) (.seq (jO [jV 57 16,jM 58 (jB .neq) [jT 57,(jI 0)]] (.cond (jT 58) (jO [jM 59 (.load true 2) [jT 3],jV 60 16,⟨none,.store 2,[jT 6,jT 59],none⟩,jM 7 .mv [jN],jV 8 60] .ret) .skip)) (jO [jM 61 (.faddr 1) [jT 10],jM 62 jL [jT 61],jM 63 (.load true 9) [jT 14],jM 64 (.bslice 28 9 [(.string ⟨#[]⟩),(.slice none 0 0),(.int .i64 0),(.slice none 0 0),(.int .i64 0),(.string ⟨#[]⟩),(.int .i64 0),(.int .i64 0),(.slice none 0 0)] 1 [0]) [jT 63],jM 65 (.app 28 9 136) [jT 62,jT 64],jM 66 (.faddr 1) [jT 10],⟨none,.store 1,[jT 66,jT 65],none⟩] (.draw [jV 67 11,jM 68 (.faddr 0) [jT 13],jM 69 jL [jT 68],jM 70 (.load true 9) [jT 13],jM 71 (.load true 9) [jT 14],jV 72 2,jV 73 12,jM 74 (.iaddr 1) [jT 72,jT 73],jM 75 jL [jT 74],jM 76 (.call 59) [jT 70,jT 71,jT 75],jV 77 15,jM 78 (.build [(0,1),(1,1),(2,1)] [(.string ⟨#[]⟩),(.int .i64 0),(.int .i64 0)] [0,1,2]) [jT 69,jT 76,jT 77],jM 79 (.tslice 49 3 [(.string ⟨#[]⟩),(.int .i64 0),(.int .i64 0)] 1 [0]) [jT 78],jM 80 (.app 49 3 32) [jT 67,jT 79],jV 11 80])))))) (.ops [jM 81 (jB .add) [jT 42,(jI 1)],jV 42 81]))))))) (jO [jM 82 (.load true 2) [jT 10],jV 83 11,⟨none,.store 2,[jT 6,jT 82],none⟩,jV 7 83,jM 8 .mv [jI 0]] .ret))))))
theorem C1g {q:Gl}:FnOK Tryz.prog (G q) 23 3 84 B1i [(.cell 6 true 2),(.tmp 7),(.tmp 8)]:=⟨Tryz.f23,Tryz.func23,by kernel_rfl,by kernel_rfl,by kernel_rfl,by kernel_rfl⟩
def D0q:A0i:=(jO [jM 0 .mv [jN]] (jO [jM 3 (.call 98) [(.k (.t (.v (.string ⟨#[97]⟩)))),(jI 0)],jM 4 (.call 98) [(.k (.t (.v (.string ⟨#[98]⟩)))),(jI 1)],jM 5 (.bslice 26 5 [(.int .i64 0),(.string ⟨#[]⟩),(.int .i64 0),(.int .i64 0),(.slice none 0 0)] 2 [0,1]) [jT 3,jT 4],jM 6 (.build [(0,1),(1,1),(2,1),(3,1),(4,1)] [(.int .i64 0),(.string ⟨#[]⟩),(.int .i64 0),(.int .i64 0),(.slice none 0 0)] [0,1,3,4]) [jI 2,(.k (.t (.v (.string ⟨#[110,112]⟩)))),(jI 2),jT 5],jM 1 (.alloc 26 [(.int .i64 0),(.string ⟨#[]⟩),(.int .i64 0),(.int .i64 0),(.slice none 0 0)]) [],⟨none,.store 5,[jT 1,jT 6],none⟩] (jO [jM 7 (.call 98) [(.k (.t (.v (.string ⟨#[97]⟩)))),(jI 0)],jM 8 (.call 98) [(.k (.t (.v (.string ⟨#[98]⟩)))),(jI 1)],jM 9 (.bslice 26 5 [(.int .i64 0),(.string ⟨#[]⟩),(.int .i64 0),(.int .i64 0),(.slice none 0 0)] 2 [0,1]) [jT 7,jT 8],jM 10 (.build [(0,1),(1,1),(2,1),(3,1),(4,1)] [(.int .i64 0),(.string ⟨#[]⟩),(.int .i64 0),(.int .i64 0),(.slice none 0 0)] [0,1,3,4]) [jI 2,(.k (.t (.v (.string ⟨#[118,112]⟩)))),(jI 2),jT 9],jM 2 (.alloc 26 [(.int .i64 0),(.string ⟨#[]⟩),(.int .i64 0),(.int .i64 0),(.slice none 0 0)]) [],⟨none,.store 5,[jT 2,jT 10],none⟩] (jO [jM 11 (.load true 5) [jT 1],jM 12 (.load true 5) [jT 2],jM 13 (.bslice 26 5 [(.int .i64 0),(.string ⟨#[]⟩),(.int .i64 0),(.int .i64 0),(.slice none 0 0)] 2 [0,1]) [jT 11,jT 12],jV 0 13] .ret))))
theorem E6x {q:Gl}:FnOK Tryz.prog (G q) 52 0 14 D0q [(.tmp 0)]:=⟨Tryz.f52,Tryz.func52,by kernel_rfl,by kernel_rfl,by kernel_rfl,by kernel_rfl⟩
def A9v:A0i:=(jO [jM 2 .mv [jF]] (.seq (jO [jM 3 .mv [jI 1]] (.block 0 (.loop (.seq (jO [jV 4 3,jV 5 0,jM 6 .lensl [jT 5],jM 7 (jB .lss) [jT 4,jT 6]] (.cond (jT 7) .skip (.exit 0))) (.seq (.block 1 (.seq (.draw [jV 10 0,jV 11 3,jM 12 (jB .sub) [jT 11,(jI 1)],jM 13 (.iaddr 5) [jT 10,jT 12],jM 14 (.load true 5) [jT 13],jV 15 0,jV 16 3,jM 17 (.iaddr 5) [jT 15,jT 16],jM 18 (.load true 5) [jT 17],jM 19 (.call 99) [jT 14,jT 18],jM 20 (jB .geq) [jT 19,(jI 0)]]) (.cond (jT 20) (jO [jM 2 .mv [jF]] .ret) .skip))) (.ops [jV 8 3,jM 9 (jB .add) [jT 8,(jI 1)],jV 3 9])))))) (jO [jM 2 .mv [jW]] .ret)))
theorem B7z {q:Gl}:FnOK Tryz.prog (G q) 53 1 21 A9v [(.tmp 2)]:=⟨Tryz.f53,Tryz.func53,by kernel_rfl,by kernel_rfl,by kernel_rfl,by kernel_rfl⟩
def B1j:A0i:=(jO [jM 4 .mv [jN]] (.scope (jO [jV 12 1,jM 13 (.call 66) [jT 12],jV 5 13] (jO [jM 6 .mv [jN]] (.seq .skip (.seq (jO [jV 14 0,jM 15 .lensl [jT 14],jM 16 .mv [jI 0]] (.block 0 (.loop (jO [jM 17 (jB .lss) [jT 16,jT 15]] (.seq (.cond (jT 17) .skip (.exit 0)) (.seq (.block 1 (jO [jM 18 (.iaddr 5) [jT 14,jT 16],jM 19 (.load true 5) [jT 18],jM 8 (.alloc 61 [(.int .i64 0),(.string ⟨#[]⟩),(.int .i64 0),(.int .i64 0),(.bool false)]) [],⟨none,.store 5,[jT 8,jT 19],none⟩] (.seq (jO [jV 20 5,jM 21 (.faddr 0) [jT 8],jM 22 (.load true 4) [jT 21],jM 23 (.call 100) [jT 20,jT 22],jM 24 (.un .not) [jT 23]] (.cond (jT 24) (.exit 1) .skip)) (.seq (jO [jV 25 6,jM 26 .lensl [jT 25],jM 27 .mv [jI 0]] (.block 2 (.loop (jO [jM 28 (jB .lss) [jT 27,jT 26]] (.seq (.cond (jT 28) .skip (.exit 2)) (.seq (.block 3 (jO [jM 29 (.iaddr 5) [jT 25,jT 27],jM 30 (.load true 5) [jT 29],jM 10 (.alloc 61 [(.int .i64 0),(.string ⟨#[]⟩),(.int .i64 0),(.int .i64 0),(.bool false)]) [],⟨none,.store 5,[jT 10,jT 30],none⟩] (jO [jM 31 (.faddr 0) [jT 10],jM 32 (.load true 4) [jT 31],jM 33 (.faddr 0) [jT 8],jM 34 (.load true 4) [jT 33],jM 35 (.ex (.eqs false [.i,.s,.i,.i])) [jT 32,jT 34]] (.cond (jT 35) (.exit 1) .skip)))) (.ops [jM 36 (jB .add) [jT 27,(jI 1)],jV 27 36]))))))) (.seq (.drawG 0 [(.o ⟨some 37,.mv,[jT 6],none⟩ false []),(.o ⟨some 39,.load true 5,[jT 8],none⟩ true []),(.o ⟨some 40,(.tslice 61 5 [(.int .i64 0),(.string ⟨#[]⟩),(.int .i64 0),(.int .i64 0),(.bool false)] 1 [0]),[jT 39],none⟩ false []),(.o ⟨some 38,.hcall 101,[jT 37],none⟩ false [1]),(.o ⟨some 41,.app 61 5 48,[jT 38,jT 40],none⟩ false []),(.o ⟨some 11,.mv,[jT 41],none⟩ false [])]) (jO [jV 42 1,jV 43 11,jM 44 (.call 30) [jT 42,jT 43],jM 45 .lensl [jT 44],jM 46 (jB .gtr) [jT 45,(jI 0)]] (.cond (jT 46) (.ops [jV 47 11,jV 6 47]) .skip))))))) (.ops [jM 48 (jB .add) [jT 16,(jI 1)],jV 16 48]))))))) (jO [jV 49 6,jV 4 49] .ret)))))))
theorem C1h {q:Gl}:FnOK Tryz.prog (G q) 54 2 50 B1j [(.tmp 4)]:=⟨Tryz.f54,Tryz.func54,by kernel_rfl,by kernel_rfl,by kernel_rfl,by kernel_rfl⟩
def B4z:A0i:=(jO [jM 3 (.box 28) [jT 0],jM 4 (.box 28) [jT 1],jM 6 .mv [jI 0]] (.seq (.block 0 (jO [jM 8 (.faddr 2) [jT 3],jM 9 jL [jT 8],jM 10 (jB .neq) [jT 9,(jI 1)],jV 7 10] (.cond (jT 7) (jO [jM 6 .mv [jI 4]] .ret) (jO [jV 12 2,jM 13 .lensl [jT 12],jM 14 (jB .eql) [jT 13,(jI 0)],jV 11 14] (.cond (jT 11) (jO [jM 6 .mv [jI 3]] .ret) (jO [jM 16 (.faddr 2) [jT 4],jM 17 jL [jT 16],jM 18 (jB .neq) [jT 17,(jI 1)],jV 15 18] (.cond (jT 15) (jO [jM 6 .mv [jI 2]] .ret) (jO [jM 20 (.faddr 4) [jT 3],jM 21 (.load true 5) [jT 20],jM 22 (.faddr 4) [jT 4],jM 23 (.load true 5) [jT 22],jM 24 (.call 99) [jT 21,jT 23],jM 25 (jB .eql) [jT 24,(jI 0)],jV 19 25] (.cond (jT 19) (jO [jM 6 .mv [jI 0]] .ret) .skip))))))))) (jO [jM 6 .mv [jI 1]] .ret)))
theorem C6s {q:Gl}:FnOK Tryz.prog (G q) 59 3 26 B4z [(.tmp 6)]:=⟨Tryz.f59,Tryz.func59,by kernel_rfl,by kernel_rfl,by kernel_rfl,by kernel_rfl⟩
def C4g:A0i:=(jO [jM 4 (.alloc 26 [(.int .i64 0),(.string ⟨#[]⟩),(.int .i64 0),(.int .i64 0),(.slice none 0 0)]) []] (jO [jV 5 0,jV 6 1,jV 7 1,jM 8 (jB .add) [jT 7,(jI 1)],jM 9 (.build [(0,1),(1,1),(2,1),(3,1),(4,1)] [(.int .i64 0),(.string ⟨#[]⟩),(.int .i64 0),(.int .i64 0),(.slice none 0 0)] [1,2,3]) [jT 5,jT 6,jT 8],⟨none,.store 5,[jT 4,jT 9],none⟩] .ret))
theorem E0r {q:Gl}:FnOK Tryz.prog (G q) 98 2 10 C4g [(.cell 4 true 5)]:=⟨Tryz.f98,Tryz.func98,by kernel_rfl,by kernel_rfl,by kernel_rfl,by kernel_rfl⟩
def SSa (t t':T) (j:Nat):A0b:=⟨[(5,.t (iv (j:Int))),(1,.t t'),(0,.t t)],[],0,26⟩
set_option maxHeartbeats 1000000 in
theorem E6y {t t':T} {l:List ByteArray} (h:IsS eStr t l) (h':IsS eStr t' l) (hl:l.length<=2000000):A0w Tryz.prog (G q) 57 [t,t'] (· = bv true):=by
 have C:=A0x (q:=q);have e1:=h.len;have e2:=h'.len;refine D8o.call rfl ?_;unfold C3c;refine A0a A0x ?_;simp -implicitDefEqProofs;refine A0a A0x ?_;simp -implicitDefEqProofs [e1,e2];refine A0o (α:=Unit) (fun _=>⟨[],[],0,26⟩) (fun _=>True) (fun _=>rfl) ?_ ?_
 ·refine A0a A0x ?_;simp -implicitDefEqProofs;refine A0f ?_;refine A0k (SSa t t') (fun j=>l.length-j) (fun j=>j<=l.length) 0 (fun _=>rfl) (Nat.zero_le _) ?_ rfl ?_
  ·refine A0d ?_;simp -implicitDefEqProofs [SSa]
  rintro j hj;by_cases hlt:j<l.length
  ·obtain⟨x,hx⟩:∃x,l[j]?=some x:=⟨_,List.getElem?_eq_getElem hlt⟩
   have i1:=h.iaddr hx .i64;have i2:=h'.iaddr hx .i64;have i1:A1o 1 (.t t) (.t (iv (j:Int)))=_:=i1;have i2:A1o 1 (.t t') (.t (iv (j:Int)))=_:=i2;have w1:IntKind.i64.wrap ((j:Int)+1)=((j+1:Nat):Int):=A0h (by omega) (by omega);refine A0c A0x ?_;simp -implicitDefEqProofs [SSa,e1,hlt,i1,i2,A0g,eStr,A3g,w1];refine Abs.Next.mk (j+1) ⟨by omega,by omega⟩ ?_;exact A0d (by simp -implicitDefEqProofs)
  ·refine A0c A0x ?_;simp -implicitDefEqProofs [SSa,e1,hlt];exact Abs.Next.mk () trivial (A0d fun q hq=>by cases hq)
 rintro _ _;refine A0c A0x ?_;simp -implicitDefEqProofs
noncomputable def F8v:List T->Option T:=g2 (tSl eStr) (tSl eStr) fun a b=>open Classical in if a=b/\a.length<=2000000 then some (bv true)else none
theorem hSame:GOK Tryz.prog (G q) 57 F8v:=A4e fun a b x y r ha hb hr=>by
 split at hr
 ·rename_i h;injection hr with hr;subst hr;obtain⟨rfl,hl⟩:=h;exact E6y ha hb hl
 ·cases hr
theorem F1o {t t':T} {l:List ByteArray} (h:IsS eStr t l) (h':IsS eStr t' l) (hl:l.length<=2000000):F8v [t,t']=some (bv true):=by
 show g2 _ _ _ _=_;rw[A4u (τ:=tSl eStr) (σ:=tSl eStr) h h',if_pos ⟨rfl,hl⟩]
theorem eqs_d (d:Dc):A1n [.i,.s,.i,.i,.b] (eDc.enc d) (eDc.enc d)=some true:=by
 simp[A1n,eDc]
theorem E6z (d:Dv):cmpD d d=0:=B0q.2 rfl
structure SmE (x:It):Prop where
 words:x.words.length<=2000000
 decs:x.decs.length<=1000000
 gold:nodD x.gold<=1000000
def SSi (X Y:Row) (j:Nat):A0b:=⟨[(5,.t (iv (j:Int))),(3,.ptr 1 0),(2,.ptr 0 0)],[(1,Y),(0,X)],2,61⟩
section
variable {x : It} {cs cs' : List T}
set_option maxHeartbeats 2000000 in
theorem B1k (h:IsIt x cs) (h':IsIt x cs') (hs:SmE x):A0w Tryz.prog (G q) 21 [.ag cs,.ag cs'] (· = bv true):=by
 obtain⟨tw,td,k,nm,f,t,tk,ks,rfl,hg,hk,hw,hd,hgD⟩:=A1a h;obtain⟨tw',td',k',nm',f',t',tk',ks',rfl,hg',hk',hw',hd',hgD'⟩:=A1a h';obtain⟨id,ws,st,ds,gold⟩:=x;obtain⟨s1,s2,s3⟩:=hs;simp only at s1 s2 s3 hg hw hd hgD hg' hw' hd' hgD';have cd:=A3c id tw st td k nm f t tk;have cd':=A3c id tw' st td' k' nm' f' t' tk'
 obtain⟨X,hX⟩:∃X,X=iRow id tw st td k nm f t tk:=⟨_,rfl⟩
 obtain⟨Y,hY⟩:∃Y,Y=iRow id tw' st td' k' nm' f' t' tk':=⟨_,rfl⟩
 have z:=ldI id tw st td k nm f t tk (H:=[(1,Y),(0,X)]) (b:=0) (by rw[hX];rfl);have y:=ldI id tw' st td' k' nm' f' t' tk' (H:=[(1,Y),(0,X)]) (b:=1) (by rw[hY];rfl);have eS:=F1o hw hw' s1;have eC:=A9r hgD hgD' s3 s3;rw[E6z]at eC;have l1:=hd.len;have l2:=hd'.len;have C:Ctx Tryz.prog (G q) _:=(A0y.cons (hSame (q:=q)) (.cons (D2w (q:=q)) .nil)).ctx mixed;refine C2d.call rfl ?_;unfold B2k;refine A0a C ?_;simp -implicitDefEqProofs [cd,cd'];rw[show Row.cells 28 [.t (sv id),.t tw,.t (iv st),.t td,.t (iv k),.t (sv nm),.t (iv f),.t (iv t),.t tk]=X from hX.symm];rw[show Row.cells 28 [.t (sv id),.t tw',.t (iv st),.t td',.t (iv k'),.t (sv nm'),.t (iv f'),.t (iv t'),.t tk']=Y from hY.symm];refine A0a C ?_;simp -implicitDefEqProofs [z.l0,y.l0,z.l1,y.l1,z.l2,y.l2,z.l3,y.l3,z.g,y.g,eS,eC,l1,l2,A3g];refine A0o (α:=Unit) (fun _=>⟨[],[],0,61⟩) (fun _=>True) (fun _=>rfl) ?_ ?_
 ·refine A0a C ?_;simp -implicitDefEqProofs;refine A0f ?_;refine A0k (SSi X Y) (fun j=>ds.length-j) (fun j=>j<=ds.length) 0 (fun _=>rfl) (Nat.zero_le _) ?_ rfl ?_
  ·refine B0z (by omega) (fun r hr=>?_) (by simp -implicitDefEqProofs [SSi,under]);simp only[List.mem_cons,List.not_mem_nil,or_false]at hr;rcases hr with rfl | rfl
   ·exact⟨rfl,by show 1<2;omega,by rw[hY];exact A2f _ [sv id,tw',iv st,td',iv k',sv nm',iv f',iv t',tk']⟩
   ·exact⟨rfl,by show 0<2;omega,by rw[hX];exact A2f _ [sv id,tw,iv st,td,iv k,sv nm,iv f,iv t,tk]⟩
  rintro j hj;by_cases hlt:j<ds.length
  ·obtain⟨d,hx⟩:∃d,ds[j]?=some d:=⟨_,List.getElem?_eq_getElem hlt⟩
   obtain⟨p1,i1,g1,_⟩:=B7u hd hx;obtain⟨p2,i2,g2,_⟩:=B7u hd' hx;have eq:=eqs_d d;have w1:IntKind.i64.wrap ((j:Int)+1)=((j+1:Nat):Int):=A0h (by omega) (by omega);refine A0c C ?_;simp -implicitDefEqProofs [SSi,z.l3,y.l3,l1,hlt,i1,i2,g1,g2,eq,w1];refine Abs.Next.mk (j+1) ⟨by omega,by omega⟩ ?_;refine B0z (by omega) (fun r hr=>?_) (by simp -implicitDefEqProofs [under]);simp only[List.mem_cons,List.not_mem_nil,or_false]at hr;rcases hr with rfl | rfl
   ·exact⟨rfl,by show 1<2;omega,by rw[hY];exact A2f _ [sv id,tw',iv st,td',iv k',sv nm',iv f',iv t',tk']⟩
   ·exact⟨rfl,by show 0<2;omega,by rw[hX];exact A2f _ [sv id,tw,iv st,td,iv k,sv nm,iv f,iv t,tk]⟩
  ·refine A0c C ?_;simp -implicitDefEqProofs [SSi,z.l3,l1,hlt];exact Abs.Next.mk () trivial (A2x (by omega) fun q hq=>by cases hq)
 rintro _ _;refine A0c C ?_;simp -implicitDefEqProofs
end
noncomputable def gSI:List T->Option T:=g2 tIt tIt fun a b=>open Classical in if a.x=b.x/\SmE a.x then some (bv true)else none
theorem E7a:GOK Tryz.prog (G q) 21 gSI:=A4e fun a b x y r ha hb hr=>by
 split at hr
 ·rename_i h;injection hr with hr;subst hr;have ha:a = .ag x.cs:=ha;have hb:b = .ag y.cs:=hb;subst ha;subst hb;exact B1k x.ok (h.1▸y.ok) h.2
 ·cases hr
theorem D0r (a b:IC) (h:a.x=b.x) (hs:SmE a.x):gSI [.ag a.cs,.ag b.cs]=some (bv true):=by
 show g2 _ _ _ _=_;rw[A4u (τ:=tIt) (σ:=tIt) (x:=a) (y:=b) rfl rfl,if_pos ⟨h,hs⟩]
structure Nt where
 id:ByteArray
 kind:Int
 drop:Int
def eNt:Enc Nt:=⟨3,fun n=>[sv n.id,iv n.kind,iv n.drop],fun _=>rfl,by omega,fun a b h=>by
 obtain⟨a1,a2,a3⟩:=a;obtain⟨b1,b2,b3⟩:=b;injection h with h1 h;injection h with h2 h;injection h with h3 _;injection h1 with h1;injection h1 with h1;injection h2 with h2;injection h2 with _ h2;injection h3 with h3;injection h3 with _ h3;simp only at h1 h2 h3
 rw[h1,h2,h3]⟩
end Go.Proofs.YtmplckgbeaifkaaGreatDoor
namespace Go.Abs
set_option linter.unusedSimpArgs false
set_option linter.unusedVariables false
open Go
section
variable {P : Program} {G : A0u} {B : Nat}
theorem B7l:∀(F:List Nat) (H:Heap) (k:Nat),k∉F->look (remAll H F) k=look H k
 | [],H,k,_=>rfl
 | b::F,H,k,h=>by
  rw[List.mem_cons,not_or]at h;show look (remAll (rem H b) F) k=_;rw[B7l F _ k h.2,A2i,if_neg h.1]
theorem F1p {α:Type} {e:Enc α} {ty b:Nat} {H:Heap} {l:List α} (h:A0p e ty H b l):frzP H [b] (rowP e b l) = .t (A1g e l):=by
 unfold frzP;rw[h.toT];cases l<;>simp[D8h]
theorem C6t (F:List Nat) {env env':List (Nat×PV)} {H R:Heap} {nx nx' n:Nat} (hB:B<=nx') (hR:∀q∈R,q.1∉F/\(∃r0,Abs.look H q.1=some r0/\B6q H F r0=q.2)/\q.1<nx'/\A1y nx' q.2=true)
  (he:∀q∈env',(∃p0,Abs.look env q.1=some p0/\frzP H F p0=q.2)/\under nx' q.2=true):Sub P G B ⟨env,H,nx,n⟩ ⟨env',R,nx',n⟩:=by
 refine(B9i F).trans ?_;unfold A0b.frz;refine B0z hB (fun q hq=>?_) fun q hq=>?_
 ·obtain⟨h1,⟨r0,h2,h3⟩,h4,h5⟩:=hR q hq;refine⟨?_,h4,h5⟩;rw[A6q,B7l _ _ _ h1,h2,<-h3];rfl
 ·obtain⟨⟨p0,h1,h2⟩,h3⟩:=he q hq;refine⟨?_,h3⟩;rw[A6q,h1,<-h2];rfl
end
def idxF (p:Pr):Nat->List Pr->Int
 | _,[]=>-1
 | i,x::r=>if p=x then(i:Int)else idxF p (i+1) r
theorem D7a {p:Pr}:∀{l:List Pr} {i:Nat},0<=idxF p i l ↔ p∈l
 | [],i=>by simp[idxF]
 | x::r,i=>by
  rw[idxF];split
  ·rename_i h;simp[h]
  ·rename_i h;rw[D7a];simp[h]
end Go.Abs
namespace Go.Proofs.YtmplckgbeaifkaaGreatDoor
set_option linter.unusedSimpArgs false
set_option linter.unusedVariables false
open Go Go.Abs
variable {q : Gl}
def SIxP (t:T) (p:Pr) (n j:Nat):A0b:=⟨[(8,.t (iv (j:Int))),(7,.t (iv (n:Int))),(3,.ptr 0 0),(0,.t t)],[(0,pRow p)],1,19⟩
set_option maxHeartbeats 1000000 in
theorem E7b {t:T} {l:List Pr} (p:Pr) (h:IsS ePr t l) (hl:l.length<=100000000):A0w Tryz.prog (G q) 152 [t,.ag (ePr.enc p)] (· = iv (idxF p 0 l)):=by
 have cd:=A5f p;have e1:=h.len;have ld:A0g true 4 [(0,pRow p)] (.ptr 0 0)=some (.t (.ag (ePr.enc p))):=rfl;refine B7t.call rfl ?_;unfold A9q
 obtain⟨R,hR⟩:∃R,R=idxF p 0 l:=⟨_,rfl⟩
 rw[<-hR];refine A0a A0x ?_;simp -implicitDefEqProofs [cd];refine A0o (α:=Unit) (fun _=>⟨[],[],0,19⟩) (fun _=>R = -1) (fun _=>rfl) ?_ ?_
 ·refine A0a A0x ?_;simp -implicitDefEqProofs [e1];refine A0f ?_;refine A0k (SIxP t p l.length) (fun j=>l.length-j) (fun j=>j<=l.length/\R=idxF p j (l.drop j)) 0 (fun _=>rfl) ⟨Nat.zero_le _,hR⟩ ?_ rfl ?_
  ·refine A0d ?_;simp -implicitDefEqProofs [SIxP]
  rintro j ⟨hj,heq⟩;by_cases hlt:j<l.length
  ·obtain⟨x,hx⟩:∃x,l[j]?=some x:=⟨_,List.getElem?_eq_getElem hlt⟩
   have i1:A1o 4 (.t t) (.t (iv (j:Int)))=_:=h.iaddr hx .i64
   have ldx:∀H:Heap,A0g true 4 H (.t (.pt (ePr.enc x++rest ePr l j)))=some (.t (.ag (ePr.enc x))):=fun _=>by
    simp only[A0g,if_true];rw[if_pos (by simp[ePr])];rfl
   have eq:=C2b p x;have w1:IntKind.i64.wrap ((j:Int)+1)=((j+1:Nat):Int):=A0h (by omega) (by omega);rw[List.drop_eq_getElem_cons hlt,(List.getElem?_eq_some_iff.1 hx).2,idxF]at heq;by_cases hpx:p=x
   ·rw[if_pos hpx]at heq;rw[decide_eq_true hpx]at eq;refine A0c A0x ?_;simp -implicitDefEqProofs [SIxP,hlt,ld,i1,ldx,eq,heq]
   ·rw[if_neg hpx]at heq;rw[decide_eq_false hpx]at eq;refine A0c A0x ?_;simp -implicitDefEqProofs [SIxP,hlt,ld,i1,ldx,eq,w1];refine Abs.Next.mk (j+1) ⟨⟨by omega,heq⟩,by omega⟩ ?_;exact A0d (by simp -implicitDefEqProofs)
  ·rw[List.drop_of_length_le (by omega),idxF]at heq;refine A0c A0x ?_;simp -implicitDefEqProofs [SIxP,hlt];refine Abs.Next.mk () heq ?_;exact A2x (by omega) (by simp -implicitDefEqProofs)
 rintro _ hRG;refine A0c A0x ?_;simp -implicitDefEqProofs [hRG]
noncomputable def F8w:List T->Option T:=g2 (tSl ePr) (tAg ePr) fun l p=>if l.length<=100000000 then some (iv (idxF p 0 l))else none
theorem hIdxP:GOK Tryz.prog (G q) 152 F8w:=A4e fun a b l p r ha hb hr=>by
 have hb:b = .ag (ePr.enc p):=hb;subst hb;split at hr
 ·rename_i h;injection hr with hr;subst hr;exact E7b p ha h
 ·cases hr
theorem F1q {t:T} {l:List Pr} (p:Pr) (h:IsS ePr t l) (hl:l.length<=100000000):F8w [t,.ag (ePr.enc p)]=some (iv (idxF p 0 l)):=by
 show g2 _ _ _ _=_;rw[A4u (τ:=tSl ePr) (σ:=tAg ePr) h (rfl:(tAg ePr).is _ p),if_pos hl]
theorem E7c {t:T} {l:List Pr} (p:Pr) (h:IsS ePr t l) (hl:l.length<=100000000):A0w Tryz.prog (G q) 100 [t,.ag (ePr.enc p)] (· = bv (decide (p∈l))):=by
 have cd:=A5f p;have ld:A0g true 4 [(0,pRow p)] (.ptr 0 0)=some (.t (.ag (ePr.enc p))):=rfl;have e:=F1q p h hl
 have e2:decide (0<=idxF p 0 l)=decide (p∈l):=by simp only[D7a]
 refine B5v.runs ((A0y.cons (hIdxP (q:=q)) .nil).ctx mixed) rfl ?_;simp -implicitDefEqProofs [A8l,cd,ld,e,e2]
noncomputable def F5r:List T->Option T:=g2 (tSl ePr) (tAg ePr) fun l p=>if l.length<=100000000 then some (bv (decide (p∈l)))else none
theorem hHasP:GOK Tryz.prog (G q) 100 F5r:=A4e fun a b l p r ha hb hr=>by
 have hb:b = .ag (ePr.enc p):=hb;subst hb;split at hr
 ·rename_i h;injection hr with hr;subst hr;exact E7c p ha h
 ·cases hr
theorem C6u {t:T} {l:List Pr} (p:Pr) (h:IsS ePr t l) (hl:l.length<=100000000):F5r [t,.ag (ePr.enc p)]=some (bv (decide (p∈l))):=by
 show g2 _ _ _ _=_;rw[A4u (τ:=tSl ePr) (σ:=tAg ePr) h (rfl:(tAg ePr).is _ p),if_pos hl]
section
theorem D3u {tp:T} {p:List Dc} (hp:IsS eDc tp p) (hl:p.length<=1000000) (hnil:p=[]->tp=nilS):A2g Tryz.prog (G q) 101 [.t tp] [] 0 (rowP eDc 0 p) (rowH eDc 61 0 p) 1:=by
 refine B7s.callP rfl ?_;unfold A9p
 cases p with
 | nil=>
  obtain rfl:=hnil rfl;refine A0c A0x ?_;simp -implicitDefEqProofs;exact⟨.inr rfl,⟨[(2,.t nilS)],[],1,8⟩,[.t nilS],A2x (by omega) (by simp -implicitDefEqProofs [under]),rfl,rfl,rfl,rfl⟩
 | cons y r=>
  rcases hp with⟨rfl,e⟩ | rfl
  ·cases e
  have hs:srcP [(0,.cells 61 [])] 5 (.t (slT eDc (y::r)))=some ((y::r).length,((y::r).flatMap eDc.enc).map .t):=A7m (IsS.mk (e:=eDc) (y::r))
  have ap:appM 61 5 48 [(0,.cells 61 [])] 1 (.row 0 0 0 5) (.t (slT eDc (y::r)))=some (rowP eDc 1 (y::r),rowH eDc 61 1 (y::r),2):=by
   have h1:(y::r).length*48<=140737488355328/\(y::r).length<=9223372036854775807:=by constructor<;>omega
   simp only[appM,hs,look_cons,if_true,List.length_nil,Nat.zero_mul,true_and,Nat.zero_add,if_pos h1,List.nil_append,rem];rfl
  have hsl:slT eDc (y::r) = .sl (y::r).length ((y::r).flatMap eDc.enc):=rfl;rw[hsl]at ap ⊢;generalize (y::r).length=n at *;generalize (y::r).flatMap eDc.enc=cs at *;have bs:A3l 61 5 [.int .i64 0,.string ⟨#[]⟩,.int .i64 0,.int .i64 0,.bool false] 0 [] 0=some (.row 0 0 0 5,.cells 61 []):=rfl;refine A0a A0x ?_;simp -implicitDefEqProofs;refine A0a A0x ?_;simp -implicitDefEqProofs;refine A0c A0x ?_;simp -implicitDefEqProofs [bs,ap];exact⟨.inr rfl,⟨[(2,rowP eDc 0 (y::r))],rowH eDc 61 0 (y::r),1,8⟩,[rowP eDc 0 (y::r)],A9e (k:=1) (A0p.head' _ _ _ _) (by omega) (by omega) (by simp -implicitDefEqProofs [A2b,A1j,ren,under]),rfl,rfl,rfl,rfl⟩
theorem D3v {α:Type} (e:Enc α) (ty:Nat) (l:List α):∀q∈rowH e ty 0 l,q.1<1/\A1y 1 q.2=true:=by
 intro q hq;obtain⟨_,rfl⟩:=A2e hq;exact⟨by omega,A1k _ _ _ _⟩
theorem E0s {tp:T} {p:List Dc} (hp:IsS eDc tp p) (hl:p.length<=1000000) (hnil:p=[]->tp=nilS) (H:Heap) (nx:Nat):A2g Tryz.prog (G q) 101 [.t tp] H nx (rowP eDc nx p) (rowH eDc 61 nx p++H) (nx+1):=by
 have h:=(D3u (q:=q) hp hl hnil).lift id nx H (rowH eDc 61 nx p++H) (fun b hb=>by omega) (fun b c hb _ _=>by omega) (by omega) (fun q hq=>by simp at hq) rfl (A1j _ _ _ _ (by omega)) (D3v eDc _ _) ?_
 ·rw[A2b]at h
  have e:A2u id 0 nx 0=nx:=by simp[A2u]
  rw[e]at h;exact h
 ·intro b x hb
  cases hs:p with
  | nil=>
   rw[hs]at hb;right;exact⟨hb,fun b0 x0 h0=>by simp[Abs.look]at h0⟩
  | cons y r=>
   rw[hs]at hb;simp only[rowH,List.cons_append,List.nil_append,look_cons]at hb;by_cases e:nx=b
   ·rw[if_pos e]at hb;injection hb with hb;subst hb;left;refine⟨0,A1b eDc 61 (y::r),by simp[rowH,A1b],by simp[A2u,e],?_⟩;rw[A2a];rfl
   ·rw[if_neg e]at hb;right;exact⟨hb,fun b0 x0 h0=>by simp[Abs.look]at h0⟩
noncomputable def hCln (ps:List PV) (H:Heap) (nx:Nat):Option (PV×Heap×Nat):=match ps with
 | [.t t]=>((tSl eDc).dec t).bind fun p=>open Classical in if p.length<=1000000/\(p=[]->t=nilS)then some (rowP eDc nx p,rowH eDc 61 nx p++H,nx+1)else none
 | _=>none
theorem F5s:HOK Tryz.prog (G q) 101 hCln where
 call:=fun ps H nx r H' nx' h=>by
  unfold hCln at h;split at h
  ·obtain⟨l,hl,h⟩:=Option.bind_eq_some_iff.1 h;split at h
   ·rename_i hn;injection h with h;injection h with h1 h2;injection h2 with h2 h3;subst h1;subst h2;subst h3;exact E0s (Ty.is_dec hl) hn.1 hn.2 H nx
   ·cases h
  ·cases h
 fresh:=fun ps H nx r H' nx' h hf b x hb=>by
  unfold hCln at h;split at h
  ·obtain⟨l,hl,h⟩:=Option.bind_eq_some_iff.1 h;split at h
   ·injection h with h;injection h with h1 h2;injection h2 with h2 h3;subst h1;subst h2;subst h3
    cases hs:l with
    | nil=>
     rw[hs]at hb;have:=hf b x hb;omega
    | cons y r=>
     rw[hs]at hb;simp only[rowH,List.cons_append,List.nil_append,look_cons]at hb;by_cases e:nx=b
     ·omega
     ·rw[if_neg e]at hb;have:=hf b x hb;omega
   ·cases h
  ·cases h
theorem F5t {t:T} {p:List Dc} (ht:IsS eDc t p) (hl:p.length<=1000000) (hnil:p=[]->t=nilS) (H:Heap) (nx:Nat):hCln [.t t] H nx=some (rowP eDc nx p,rowH eDc 61 nx p++H,nx+1):=by
 show((tSl eDc).dec t).bind _=_;rw[Ty.dec_is (τ:=tSl eDc) ht,Option.bind_some,if_pos ⟨hl,hnil⟩]
end
end Go.Proofs.YtmplckgbeaifkaaGreatDoor
