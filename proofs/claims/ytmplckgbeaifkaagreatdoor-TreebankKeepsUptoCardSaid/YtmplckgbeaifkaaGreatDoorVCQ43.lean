/- Auxiliary facts. -/
import Derived.Test.YtmplckgbeaifkaaGreatDoorVCQ39
set_option linter.unusedSimpArgs false
set_option maxRecDepth 100000
set_option maxHeartbeats 0
set_option linter.unusedVariables false
namespace Go.Proofs.YtmplckgbeaifkaaGreatDoor
open Go Go.Abs
variable {q : Gl}
def allW (ws:List ByteArray):Int:=if ws.all A3n then 0 else 1
def A4s (t:T) (n j:Nat):A0b:=⟨[(13,.t (iv (j:Int))),(12,.t (iv (n:Int))),(11,.t t)],[],0,21⟩
theorem C0n {t:T} {ws:List ByteArray} (ht:IsS eStr t ws) (hw:∀w∈ws,w.size<=lim) (hl:ws.length<=2000000):A0v Tryz.prog (G q) 119 [t] (· = iv (chkW ws)):=by
 have C:Ctx Tryz.prog (G q) _:=(A0x.cons (hWd (q:=q)) .nil).ctx mixed;have l1:=ht.len;refine C9x.call rfl ?_;(conv in B7r=>cbv)
 obtain⟨R,hR⟩:∃R,R=chkW ws:=⟨_,rfl⟩
 rw[<-hR];rw[chkW]at hR;refine A0a C ?_;simp -implicitDefEqProofs
 by_cases h0:ws=[]
 ·rw[if_pos h0]at hR;subst h0;have hb:((([]:List ByteArray).length:Int)==0)=true:=rfl;refine A0a C ?_;simp -implicitDefEqProofs [l1,hb,hR]
 rw[if_neg h0]at hR
 have hb:((ws.length:Int)==0)=false:=by
  have:ws.length≠0:=fun e=>h0 (List.eq_nil_of_length_eq_zero e);simpa using this
 refine A0a C ?_;simp -implicitDefEqProofs [l1,hb,h0];by_cases h32:32<ws.length
 ·rw[if_pos h32]at hR
  have hc:decide ((32:Int)<(ws.length:Int))=true:=by simpa using (by omega:(32:Int)<(ws.length:Int))
  refine A0a C ?_;simp -implicitDefEqProofs [l1,hc,hR]
 rw[if_neg h32]at hR
 have hc:decide ((32:Int)<(ws.length:Int))=false:=by simpa using (by omega:(ws.length:Int)<=32)
 refine A0a C ?_;simp -implicitDefEqProofs [l1,hc];refine A0s (α:=Unit) (fun _=>⟨[],[],0,21⟩) (fun _=>R=0) (fun _=>rfl) ?_ ?_
 ·refine A0a C ?_;simp -implicitDefEqProofs [l1];refine A0g ?_;refine A0t (A4s t ws.length) (fun j=>ws.length-j) (fun j=>j<=ws.length/\allW (ws.drop j)=R) 0 (fun _=>rfl) ⟨Nat.zero_le _,by simp[hR,allW]⟩ ?_ rfl ?_
  ·refine A0d ?_;simp -implicitDefEqProofs [A4s]
  rintro j ⟨hj,heq⟩;refine A0c C ?_;by_cases hlt:j<ws.length
  ·obtain⟨x,hx⟩:∃x,ws[j]?=some x:=⟨_,List.getElem?_eq_getElem hlt⟩
   have i1:A1b 1 (.t t) (.t (iv (j:Int)))=some (.t (.pt (sv x::rest eStr ws j))):=ht.iaddr hx .i64;have ld:∀H,A0e false 1 H (.t (.pt (sv x::rest eStr ws j)))=some (.t (sv x)):=fun _=>rfl;have eW:=F7l (hw x (List.mem_of_getElem? hx));have e1:IntKind.i64.wrap ((j:Int)+1)=((j+1:Nat):Int):=A0j (by omega) (by omega);rw[List.drop_eq_getElem_cons hlt,(List.getElem?_eq_some_iff.1 hx).2,allW,List.all_cons]at heq
   cases hxw:A3n x with
   | true=>
    rw[hxw,Bool.true_and]at heq;rw[hxw]at eW;simp -implicitDefEqProofs [A4s,l1,hlt,i1,ld,eW,e1];exact Abs.Next.mk (j+1) ⟨⟨by omega,heq⟩,by omega⟩ (A0d (by simp -implicitDefEqProofs [A4s]))
   | false=>
    rw[hxw,Bool.false_and,if_neg (by simp)]at heq;rw[hxw]at eW;simp -implicitDefEqProofs [A4s,l1,hlt,i1,ld,eW,<-heq]
  ·rw[List.drop_of_length_le (by omega)]at heq;simp -implicitDefEqProofs [A4s,l1,hlt];exact Abs.Next.mk () (by simpa[allW]using heq.symm) (A0d (by simp -implicitDefEqProofs))
 ·rintro _ h0;refine A0c C ?_;simp -implicitDefEqProofs [h0]
def A6p (t:T) (n j:Nat):A0b:=⟨[(3,.t (iv (j:Int))),(0,.t t)],[],0,22⟩
theorem C5m {t:T} {ws:List ByteArray} (ht:IsS eStr t ws) (hw:∀w∈ws,w.size<=lim) (hl:ws.length<=2000000):A0v Tryz.prog (G q) 108 [t] (· = iv (chkW ws)):=by
 have C:Ctx Tryz.prog (G q) _:=(A0x.cons (hRWd (q:=q)) .nil).ctx mixed;have l1:=ht.len;refine D7k.call rfl ?_;(conv in C3r=>cbv)
 obtain⟨R,hR⟩:∃R,R=chkW ws:=⟨_,rfl⟩
 rw[<-hR];rw[chkW]at hR;refine A0a C ?_;simp -implicitDefEqProofs
 by_cases h0:ws=[]
 ·rw[if_pos h0]at hR;subst h0;have hb:((([]:List ByteArray).length:Int)==0)=true:=rfl;refine A0a C ?_;simp -implicitDefEqProofs [l1,hb,hR]
 rw[if_neg h0]at hR
 have hb:((ws.length:Int)==0)=false:=by
  have:ws.length≠0:=fun e=>h0 (List.eq_nil_of_length_eq_zero e);simpa using this
 refine A0a C ?_;simp -implicitDefEqProofs [l1,hb,h0];by_cases h32:32<ws.length
 ·rw[if_pos h32]at hR
  have hc:decide ((32:Int)<(ws.length:Int))=true:=by simpa using (by omega:(32:Int)<(ws.length:Int))
  refine A0a C ?_;simp -implicitDefEqProofs [l1,hc,hR]
 rw[if_neg h32]at hR
 have hc:decide ((32:Int)<(ws.length:Int))=false:=by simpa using (by omega:(ws.length:Int)<=32)
 refine A0a C ?_;simp -implicitDefEqProofs [l1,hc];refine A0s (α:=Unit) (fun _=>⟨[],[],0,22⟩) (fun _=>R=0) (fun _=>rfl) ?_ ?_
 ·refine A0a C ?_;simp -implicitDefEqProofs [l1];refine A0g ?_;refine A0t (A6p t ws.length) (fun j=>ws.length-j) (fun j=>j<=ws.length/\allW (ws.drop j)=R) 0 (fun _=>rfl) ⟨Nat.zero_le _,by simp[hR,allW]⟩ ?_ rfl ?_
  ·refine A0d ?_;simp -implicitDefEqProofs [A6p]
  rintro j ⟨hj,heq⟩;refine A0c C ?_;by_cases hlt:j<ws.length
  ·obtain⟨x,hx⟩:∃x,ws[j]?=some x:=⟨_,List.getElem?_eq_getElem hlt⟩
   have i1:A1b 1 (.t t) (.t (iv (j:Int)))=some (.t (.pt (sv x::rest eStr ws j))):=ht.iaddr hx .i64;have ld:∀H,A0e false 1 H (.t (.pt (sv x::rest eStr ws j)))=some (.t (sv x)):=fun _=>rfl;have eW:=F7l (hw x (List.mem_of_getElem? hx));have e1:IntKind.i64.wrap ((j:Int)+1)=((j+1:Nat):Int):=A0j (by omega) (by omega);rw[List.drop_eq_getElem_cons hlt,(List.getElem?_eq_some_iff.1 hx).2,allW,List.all_cons]at heq
   cases hxw:A3n x with
   | true=>
    rw[hxw,Bool.true_and]at heq;rw[hxw]at eW;simp -implicitDefEqProofs [A6p,l1,hlt,i1,ld,eW,e1];exact Abs.Next.mk (j+1) ⟨⟨by omega,heq⟩,by omega⟩ (A0d (by simp -implicitDefEqProofs [A6p]))
   | false=>
    rw[hxw,Bool.false_and,if_neg (by simp)]at heq;rw[hxw]at eW;simp -implicitDefEqProofs [A6p,l1,hlt,i1,ld,eW,<-heq]
  ·rw[List.drop_of_length_le (by omega)]at heq;simp -implicitDefEqProofs [A6p,l1,hlt];exact Abs.Next.mk () (by simpa[allW]using heq.symm) (A0d (by simp -implicitDefEqProofs))
 ·rintro _ h0;refine A0c C ?_;simp -implicitDefEqProofs [h0]
def SmW (ws:List ByteArray):Prop:=ws.length<=2000000/\∀w∈ws,w.size<=lim
noncomputable def gTok:List T->Option T:=g1 (tSl eStr) fun ws=>open Classical in if SmW ws then some (iv (chkW ws))else none
theorem hTok:GOK Tryz.prog (G q) 119 gTok:=A4c fun a x r ha hr=>by
 split at hr
 ·rename_i h;injection hr with hr;subst hr;exact C0n ha h.2 h.1
 ·cases hr
theorem hRTok:GOK Tryz.prog (G q) 108 gTok:=A4c fun a x r ha hr=>by
 split at hr
 ·rename_i h;injection hr with hr;subst hr;exact C5m ha h.2 h.1
 ·cases hr
theorem F0z {t:T} {ws:List ByteArray} (ht:IsS eStr t ws) (h:SmW ws):gTok [t]=some (iv (chkW ws)):=by
 show g1 _ _ _=_;rw[A5l (τ:=tSl eStr) ht,if_pos h]
theorem C9z (p:Pr) (m:Int) (hs:p.name.size<=lim):A0v Tryz.prog (G q) 120 [.ag (ePr.enc p),iv m] (· = iv (chkP p m)):=by
 obtain⟨k,n,f,t⟩:=p;have cd:=G0p ⟨k,n,f,t⟩;have eN:=B4v hs;simp only at eN;refine B6f.runs ((A0x.cons (hNm (q:=q)) .nil).ctx mixed) rfl ?_
 obtain⟨R,hR⟩:∃R,R=chkP ⟨k,n,f,t⟩ m:=⟨_,rfl⟩
 rw[<-hR];simp only[chkP]at hR;by_cases h1:k<0
 ·rw[if_pos (.inl h1)]at hR
  (conv in A1c=>cbv);simp -implicitDefEqProofs [cd,A0e,h1,hR]
 by_cases h2:3<k
 ·rw[if_pos (.inr h2)]at hR
  (conv in A1c=>cbv);simp -implicitDefEqProofs [cd,A0e,h1,h2,hR]
 rw[if_neg (fun h=>h.elim h1 h2)]at hR
 have last:∀(R:Int),R=(if f<0\/t<=f\/m<t then 2 else 0)->(f<0/\R=2)\/(¬f<0/\t<=f/\R=2)\/(¬f<0/\¬t<=f/\m<t/\R=2)\/(¬f<0/\¬t<=f/\¬m<t/\R=0):=fun R h=>by
  by_cases g1:f<0
  ·exact .inl ⟨g1,by rw[h,if_pos (.inl g1)]⟩
  ·by_cases g2:t<=f
   ·exact .inr (.inl ⟨g1,g2,by rw[h,if_pos (.inr (.inl g2))]⟩)
   ·by_cases g3:m<t
    ·exact .inr (.inr (.inl ⟨g1,g2,g3,by rw[h,if_pos (.inr (.inr g3))]⟩))
    ·exact .inr (.inr (.inr ⟨g1,g2,g3,by rw[h,if_neg (fun x=>x.elim g1 fun x=>x.elim g2 g3)]⟩))
 by_cases h3:k=3
 ·by_cases h4:n=⟨#[]⟩
  ·rw[if_neg (fun h=>h.elim (fun h=>h.2 h4) (fun h=>h.1 h3))]at hR;subst h3;subst h4;rcases last R hR with⟨g1,hr⟩ | ⟨g1,g2,hr⟩ | ⟨g1,g2,g3,hr⟩ | ⟨g1,g2,g3,hr⟩
   ·(conv in A1c=>cbv);simp -implicitDefEqProofs [cd,A0e,A2g,g1,hr]
   ·(conv in A1c=>cbv);simp -implicitDefEqProofs [cd,A0e,A2g,g1,g2,hr]
   ·(conv in A1c=>cbv);simp -implicitDefEqProofs [cd,A0e,A2g,g1,g2,g3,hr]
   ·(conv in A1c=>cbv);simp -implicitDefEqProofs [cd,A0e,A2g,g1,g2,g3,hr]
  ·rw[if_pos (.inl ⟨h3,h4⟩)]at hR;subst h3
   have he:n.toList.isEmpty=false:=by
    cases h:n.toList with
    | nil=>exact absurd (toList_inj (b:=⟨#[]⟩) (by rw[h,A6m])) h4
    | cons _ _=>rfl
   (conv in A1c=>cbv);simp -implicitDefEqProofs [cd,A0e,he,hR]
 ·have b3:(k==3)=false:=by simpa using h3
  have c3:(k != 3)=true:=by simpa using h3
  cases hn:A0y false n with
  | false=>
   rw[if_pos (.inr ⟨h3,hn⟩)]at hR;rw[hn]at eN
   (conv in A1c=>cbv);simp -implicitDefEqProofs [cd,A0e,h1,h2,b3,c3,eN,hR]
  | true=>
   rw[if_neg (fun h=>h.elim (fun h=>h3 h.1) (fun h=>by rw[hn]at h;cases h.2))]at hR;rw[hn]at eN;rcases last R hR with⟨g1,hr⟩ | ⟨g1,g2,hr⟩ | ⟨g1,g2,g3,hr⟩ | ⟨g1,g2,g3,hr⟩
   ·(conv in A1c=>cbv);simp -implicitDefEqProofs [cd,A0e,h1,h2,b3,c3,eN,g1,hr]
   ·(conv in A1c=>cbv);simp -implicitDefEqProofs [cd,A0e,h1,h2,b3,c3,eN,g1,g2,hr]
   ·(conv in A1c=>cbv);simp -implicitDefEqProofs [cd,A0e,h1,h2,b3,c3,eN,g1,g2,g3,hr]
   ·(conv in A1c=>cbv);simp -implicitDefEqProofs [cd,A0e,h1,h2,b3,c3,eN,g1,g2,g3,hr]
noncomputable def gDcn:List T->Option T:=g2 (tAg ePr) tInt fun p m=>if p.name.size<=lim then some (iv (chkP p m))else none
theorem hDcn:GOK Tryz.prog (G q) 120 gDcn:=A6w fun a b p m r ha hb hr=>by
 obtain rfl:a = .ag (ePr.enc p):=ha;obtain rfl:b=iv m:=hb;split at hr
 ·rename_i h;injection hr with hr;subst hr;exact C9z p m h
 ·cases hr
theorem G0s (p:Pr) (m:Int) (h:p.name.size<=lim):gDcn [.ag (ePr.enc p),iv m]=some (iv (chkP p m)):=by
 show g2 _ _ _ _=_;rw[A7u (τ:=tAg ePr) (σ:=tInt) rfl rfl,if_pos h]
mutual
theorem F1a:∀d:Dv,nodD d<=(prtD d).length
 | .mk k n f t ks=>by
  have:=E0x ks;rw[nodD,prtD];simp only[List.length_cons,List.length_append];omega
theorem E0x:∀l:List Dv,nodK l<=(prtK l).length
 | []=>by simp[nodK,prtK]
 | d::r=>by
  have h1:=F1a d;have h2:=E0x r;rw[nodK,prtK];simp only[List.length_cons,List.length_append];omega
end
theorem E0y {s:List UInt8} {d:Dv} (h:parD s = .ok d):nodD d<=65536:=by
 have h1:=D6i h;have h2:=F1a d;rw[h1]at h2;unfold parD at h;split at h
 ·cases h
 ·omega
theorem D0a {s:List UInt8} {e:Int} (h:parD s = .error e):e≠0:=by
 unfold parD at h;split at h
 ·injection h with h;omega
 ·have hr:=C3d 64 s;split at h
  ·rename_i e' he;rw[he]at hr;injection h with h;subst h;exact hr.2.2
  ·cases h
  ·injection h with h;omega
theorem D7m {c:List T} {d:Dv} (h:Abs.IsD d c) (hw:Wd d):A0v Tryz.prog (G q) 122 [.ag c] (· = bv (C2f d)):=by
 have e1:=E0t h hw;have e2:=E0u (bs (prtD d));have e2:G0n [sv (bs (prtD d))]=some (parT (prtD d)):=e2;have hn:nodD d<=1000000:=hw.2.2
 have hsp:C2f d=(match parD (prtD d)with | .ok x=>decide (cmpD x d=0) | .error _=>false):=by
  unfold C2f;cases parD (prtD d)<;>rfl
 have h0:=h
 cases d with
 | mk k nm f t ks=>
 obtain⟨tk,rfl,hk⟩:=h.parts;have cd:=A9v k nm f t tk;have C:Ctx Tryz.prog (G q) _:=(A0x.cons (G3w (q:=q)) (.cons (G3x (q:=q)) (.cons (G2s (q:=q)) .nil))).ctx mixed
 obtain⟨H1,hH1⟩:∃H1:Heap,H1=[(0,.cells 26 [.t (iv k),.t (sv nm),.t (iv f),.t (iv t),.t tk])]:=⟨_,rfl⟩
 have ld:A0e true 5 H1 (.ptr 0 0)=some (.t (.ag [iv k,sv nm,iv f,iv t,tk])):=by rw[hH1];rfl
 obtain⟨P,hP⟩:∃P,P=prtD (.mk k nm f t ks):=⟨_,rfl⟩
 rw[<-hP]at e1 e2 hsp;rw[hsp];refine B8z.runs C rfl ?_
 cases hpar:parD P with
 | error e=>
  have he:=D0a hpar
  have hb:(e==0)=false:=by simpa using he
  have ep:parT P = .tu [.ag (encD A1n),iv e]:=by unfold parT;rw[hpar]
  rw[ep]at e2;have st:A0h 5 (zD5 1::H1) (.ptr 1 0) (.t (.ag (encD A1n)))=some ((1,.cells 26 ((encD A1n).map .t))::H1):=B1k 1 H1 A1n (IsD.enc A1n)
  (conv in A6o=>cbv);simp -implicitDefEqProofs [cd,<-hH1,ld,e1,e2,st,hb]
 | ok x=>
  have hx:=E0y hpar
  have ep:parT P = .tu [.ag (encD x),iv 0]:=by unfold parT;rw[hpar]
  rw[ep]at e2
  obtain⟨H2,hH2⟩:∃H2:Heap,H2=(1,.cells 26 ((encD x).map .t))::H1:=⟨_,rfl⟩
  have st:A0h 5 (zD5 1::H1) (.ptr 1 0) (.t (.ag (encD x)))=some H2:=by rw[hH2];exact B1k 1 H1 x (IsD.enc x)
  have ld2:A0e true 5 H2 (.ptr 1 0)=some (.t (.ag (encD x))):=by rw[hH2];exact B6b 1 H1 x (IsD.enc x)
  have ld3:A0e true 5 H2 (.ptr 0 0)=some (.t (.ag [iv k,sv nm,iv f,iv t,tk])):=by rw[hH2,hH1];rfl
  have eC:=C6z (IsD.enc x) h0 (by omega) hn
  have hcd:(cmpD x (.mk k nm f t ks)==0)=decide (cmpD x (.mk k nm f t ks)=0):=by
   rw[Bool.eq_iff_iff];simp
  (conv in A6o=>cbv);simp -implicitDefEqProofs [cd,<-hH1,ld,e1,e2,st,ld2,ld3,eC,hcd]
noncomputable def gPsd:List T->Option T:=g1 tD fun d=>open Classical in if Wd d then some (bv (C2f d))else none
theorem hPsd:GOK Tryz.prog (G q) 122 gPsd:=A4c fun a d r ha hr=>by
 split at hr
 ·rename_i h;injection hr with hr;subst hr;obtain⟨c,rfl,hc⟩:=ha;exact D7m hc h
 ·cases hr
theorem G0t {c:List T} {d:Dv} (h:Abs.IsD d c) (hw:Wd d):gPsd [.ag c]=some (bv (C2f d)):=by
 show g1 _ _ _=_;rw[A5l (τ:=tD) (x:=d) ⟨c,rfl,h⟩,if_pos hw]
structure SmI (x:It):Prop where
 words:SmW x.words
 len:x.decs.length<=1000000
 decs:∀d∈x.decs,d.p.name.size<=lim
 gold:Wd x.gold
 id:x.id.size<=lim
def iRow (id:ByteArray) (tw:T) (st:Int) (td:T) (k:Int) (nm:ByteArray) (f t:Int) (tk:T):Row:=.cells 28 [.t (sv id),.t tw,.t (iv st),.t td,.t (iv k),.t (sv nm),.t (iv f),.t (iv t),.t tk]
theorem A1g {x:It} {cs:List T} (h:IsIt x cs):∃tw td k nm f t tk ks,cs=[sv x.id,tw,iv x.state,td,iv k,sv nm,iv f,iv t,tk]/\x.gold = .mk k nm f t ks/\IsK tk ks/\IsS eStr tw x.words/\IsS eDc td x.decs/\Abs.IsD x.gold [iv k,sv nm,iv f,iv t,tk]:=by
 obtain⟨tw,td,g,e,h1,h2,h3⟩:=h
 cases hg:x.gold with
 | mk k nm f t ks=>
  rw[hg]at h3;have h4:=h3;obtain⟨tk,rfl,hk⟩:=h3.parts;exact⟨tw,td,k,nm,f,t,tk,ks,e,rfl,hk,h1,h2,h4⟩
section
variable (id : ByteArray) (tw : T) (st : Int) (td : T) (k : Int) (nm : ByteArray) (f t : Int) (tk : T)
theorem B1m:A0q (.t (.ag [sv id,tw,iv st,td,iv k,sv nm,iv f,iv t,tk]))=some [.t (sv id),.t tw,.t (iv st),.t td,.t (iv k),.t (sv nm),.t (iv f),.t (iv t),.t tk]:=rfl
structure LdI (H:Heap) (b:Nat):Prop where
 l0:A0e false 1 H (.ptr b 0)=some (.t (sv id))
 l1:A0e false 1 H (.ptr b 1)=some (.t tw)
 l2:A0e false 1 H (.ptr b 2)=some (.t (iv st))
 l3:A0e false 1 H (.ptr b 3)=some (.t td)
 l6:A0e false 1 H (.ptr b 6)=some (.t (iv f))
 l7:A0e false 1 H (.ptr b 7)=some (.t (iv t))
 g:A0e true 5 H (.ptr b 4)=some (.t (.ag [iv k,sv nm,iv f,iv t,tk]))
 a:A0e true 9 H (.ptr b 0)=some (.t (.ag [sv id,tw,iv st,td,iv k,sv nm,iv f,iv t,tk]))
theorem ldI {H:Heap} {b:Nat} (h:Abs.look H b=some (iRow id tw st td k nm f t tk)):LdI id tw st td k nm f t tk H b:=by
 constructor<;>simp[A0e,h,iRow,agOf,allT]
end
theorem bdZ5 {Φ:A0n} {H:Heap} {nx:Nat}:A0f Φ H nx (.build [(0,1),(1,1),(2,1),(3,1),(4,1)] [.int .i64 0,.string ⟨#[]⟩,.int .i64 0,.int .i64 0,.slice none 0 0] []) []=some (.t (.ag (encD A1n)),H,nx):=rfl
abbrev A2d (d:Dc):Row:=.cells 61 [.t (iv d.p.kind),.t (sv d.p.name),.t (iv d.p.frm),.t (iv d.p.to),.t (bv d.yes)]
theorem B7w:FnOK Tryz.prog (G q) 121 2 9 B0m [(.tmp 3)]:=⟨Tryz.f121,Tryz.func121,by kernel_rfl,by kernel_rfl,by kernel_rfl,by kernel_rfl⟩
theorem E5g {X:Row} (hX:∃(ty:Nat) (cs:List T),X = .cells ty (cs.map .t)) (d y:Dc):A1v Tryz.prog (G q) 121 ([]++[PV.t (.ag (eDc.enc y))]++[.ptr 1 0]) [(1,A2d d),(0,X)] 2 (.t (bv (decide (y.p=d.p)))) [(1,A2d d),(0,X)] 2:=by
 have cd:A0q (.t (.ag (eDc.enc y)))=some [.t (iv y.p.kind),.t (sv y.p.name),.t (iv y.p.frm),.t (iv y.p.to),.t (bv y.yes)]:=rfl
 obtain⟨H1,hH1⟩:∃H1:Heap,H1=(2,A2d y)::[(1,A2d d),(0,X)]:=⟨_,rfl⟩
 have ld1:A0e true 4 H1 (.ptr 2 0)=some (.t (.ag (ePr.enc y.p))):=by rw[hH1];rfl
 have ld2:A0e true 4 H1 (.ptr 1 0)=some (.t (.ag (ePr.enc d.p))):=by rw[hH1];rfl
 have eq:=G3y y.p d.p;refine B7w.callP rfl ?_;unfold B0m;simp only[List.nil_append,List.singleton_append];refine A0c A0z ?_;simp -implicitDefEqProofs [cd,<-hH1,ld1,ld2,eq];refine⟨.inr rfl,⟨[(3,.t (bv (decide (y.p=d.p))))],[(1,A2d d),(0,X)],2,9⟩,[.t (bv (decide (y.p=d.p)))],A7z (by omega) (fun z hz=>?_) (by simp -implicitDefEqProofs [under]),rfl,rfl,rfl,rfl⟩;simp only[List.mem_cons,List.not_mem_nil,or_false]at hz;rcases hz with rfl | rfl
 ·exact⟨by rw[hH1];rfl,by show 1<2;omega,rfl⟩
 ·obtain⟨ty,cs,rfl⟩:=hX;exact⟨by rw[hH1];rfl,by show 0<2;omega,A1e _ _⟩
def SIt (X:Row) (td:T) (n j:Nat):A0b:=⟨[(28,.t (iv (j:Int))),(27,.t (iv (n:Int))),(26,.t td),(1,.ptr 0 0)],[(0,X)],1,89⟩
theorem st_dc (d:Dc) (H:Heap):A0h 5 ((1,Row.cells 61 [.t (.v (.int .i64 0)),.t (.v (.string ⟨#[]⟩)),.t (.v (.int .i64 0)),.t (.v (.int .i64 0)),.t (.v (.bool false))])::H) (.ptr 1 0) (.t (.ag (eDc.enc d)))=some ((1,A2d d)::H):=rfl
theorem F1b {x:It} {cs:List T} (h:IsIt x cs) (hs:SmI x):A0v Tryz.prog (G q) 69 [.ag cs] (· = iv (chkR x)):=by
 obtain⟨tw,td,k,nm,f,t,tk,ks,rfl,hg,hk,hw,hd,hgD⟩:=A1g h;obtain⟨id,ws,st,ds,gold⟩:=x;simp only at hg hw hd hgD;have hW:=hs.words;have hdl:=hs.len;have hdn:=hs.decs;have hWd:=hs.gold;simp only at hW hdl hdn hWd;have cd:=B1m id tw st td k nm f t tk;have lw:=hw.len;have ldd:=hd.len;have eT:=F0z hw hW
 obtain⟨X,hX⟩:∃X,X=iRow id tw st td k nm f t tk:=⟨_,rfl⟩
 have hXc:∃(ty:Nat) (cs:List T),X = .cells ty (cs.map .t):=⟨_,[sv id,tw,iv st,td,iv k,sv nm,iv f,iv t,tk],hX⟩
 have L0:∀R:Heap,LdI id tw st td k nm f t tk ((0,X)::R) 0:=fun R=>ldI _ _ _ _ _ _ _ _ _ (by rw[hX];rfl);have L1:∀(Y:Row) (R:Heap),LdI id tw st td k nm f t tk ((1,Y)::(0,X)::R) 0:=fun Y R=>ldI _ _ _ _ _ _ _ _ _ (by rw[hX];rfl);have C:Ctx Tryz.prog (G q) _:=(A0x.cons (hTok (q:=q)) (.cons (hDcn (q:=q)) (.cons (hPsd (q:=q)) (.cons (G2s (q:=q)) .nil)))).ctx mixed;refine C3p.call rfl ?_;(conv in B3c=>cbv)
 obtain⟨R,hR⟩:∃R,R=chkR ⟨id,ws,st,ds,gold⟩:=⟨_,rfl⟩
 rw[<-hR];rw[chkR]at hR;simp only at hR;have z:=L0 [];refine A0a C ?_;simp -implicitDefEqProofs [cd];rw[show Row.cells 28 [.t (sv id),.t tw,.t (iv st),.t td,.t (iv k),.t (sv nm),.t (iv f),.t (iv t),.t tk]=X from hX.symm];by_cases h1:chkW ws=0
 rotate_left
 ·rw[if_pos h1]at hR
  have hb:(chkW ws != 0)=true:=by simpa using h1
  refine A0a C ?_;simp -implicitDefEqProofs [z.l1,eT,hb,hR]
 rw[if_neg (fun e=>e h1)]at hR;rw[h1]at eT;refine A0a C ?_;simp -implicitDefEqProofs [z.l1,eT];by_cases h2:st<0
 ·rw[if_pos (.inl h2)]at hR;refine A0a C ?_;simp -implicitDefEqProofs [z.l2,h2,hR]
 by_cases h3:2<st
 ·rw[if_pos (.inr h3)]at hR;refine A0a C ?_;simp -implicitDefEqProofs [z.l2,h2,h3,hR]
 rw[if_neg (fun e=>e.elim h2 h3)]at hR;refine A0a C ?_;simp -implicitDefEqProofs [z.l2,h2,h3];by_cases h4:256<ds.length
 ·rw[if_pos h4]at hR
  have hc:decide ((256:Int)<(ds.length:Int))=true:=by simpa using (by omega:(256:Int)<(ds.length:Int))
  refine A0a C ?_;simp -implicitDefEqProofs [z.l3,ldd,hc,hR]
 rw[if_neg h4]at hR
 have hc:decide ((256:Int)<(ds.length:Int))=false:=by simpa using (by omega:(ds.length:Int)<=256)
 refine A0a C ?_;simp -implicitDefEqProofs [z.l3,ldd,hc];refine A0s (α:=Unit) (fun _=>⟨[(1,.ptr 0 0)],[(0,X)],1,89⟩) (fun _=>R=chkG ⟨id,ws,st,ds,gold⟩) (fun _=>rfl) ?_ ?_
 ·refine A0a C ?_;simp -implicitDefEqProofs [z.l3,ldd];refine A0g ?_;refine A0t (SIt X td ds.length) (fun j=>ds.length-j) (fun j=>j<=ds.length/\(if A8w ws.length (ds.take j) (ds.drop j)≠0 then A8w ws.length (ds.take j) (ds.drop j)else chkG ⟨id,ws,st,ds,gold⟩)=R) 0 (fun _=>rfl) ⟨Nat.zero_le _,hR.symm⟩ ?_ rfl ?_
  ·refine A0d ?_;simp -implicitDefEqProofs [SIt]
  rintro j ⟨hj,heq⟩;by_cases hlt:j<ds.length
  ·obtain⟨d,hdx⟩:∃d,ds[j]?=some d:=⟨_,List.getElem?_eq_getElem hlt⟩
   obtain⟨pp,i1,ld5,_,_⟩:=C5g hd hdx;have e1:IntKind.i64.wrap ((j:Int)+1)=((j+1:Nat):Int):=A0j (by omega) (by omega);have eD:=G0s d.p (ws.length:Int) (hdn d (List.mem_of_getElem? hdx));have y:=L1 (A2d d) [];have ldp:∀R:Heap,A0e true 4 ((1,A2d d)::R) (.ptr 1 0)=some (.t (.ag (ePr.enc d.p))):=fun _=>rfl;have st5:=st_dc d [(0,X)]
   have htk:ds.take j++[d]=ds.take (j+1):=by rw[List.take_add_one,hdx];rfl
   have hck:A8w ws.length (ds.take j) (ds.drop j)=if chkP d.p ws.length≠0 then chkP d.p ws.length else if((ds.take j).any fun y=>decide (y.p=d.p))then 4 else A8w ws.length (ds.take (j+1)) (ds.drop (j+1)):=by
    rw[List.drop_eq_getElem_cons hlt,(List.getElem?_eq_some_iff.1 hdx).2,A8w,htk]
   refine A0a C ?_;simp -implicitDefEqProofs [SIt,hlt];refine A1p ?_;refine A0c C ?_;simp -implicitDefEqProofs;refine⟨rfl,?_⟩;refine A1p ?_;refine A0g ?_;refine A0a C ?_;simp -implicitDefEqProofs [i1,ld5,st5];by_cases g1:chkP d.p ws.length=0
   rotate_left
   ·rw[if_pos g1]at hck;rw[hck,if_pos g1]at heq
    have hb:(R != 0)=true:=by rw[<-heq];simpa using g1
    refine A0a C ?_;simp -implicitDefEqProofs [ldp,y.l1,lw,eD,hb,heq,A5u]
   rw[if_neg (fun e=>e g1)]at hck;rw[g1]at eD;refine A0a C ?_;simp -implicitDefEqProofs [ldp,y.l1,lw,eD];obtain⟨t',sl,hsl⟩:=hd.slice_to (k:=j) (by omega) .i64;have sl:A3z 5 (.t td) none (some (.t (iv (j:Int))))=some (.t t'):=sl;have hcc:=C9w (q:=q) (F:=121) (first:=[]) (cap:=[.ptr 1 0]) (p:=fun y=>decide (y.p=d.p)) (H:=[(1,A2d d),(0,X)]) (nx:=2) hsl (by rw[List.length_take];omega) (fun y _=>E5g hXc d y)
   obtain⟨t1,o1,ok1⟩:∃t1,t1 [.t t',.fn (.func 121) [] [.ptr 1 0]] [(1,A2d d),(0,X)] 2=some (.t (bv ((ds.take j).any fun y=>decide (y.p=d.p))),[(1,A2d d),(0,X)],2)/\HOK Tryz.prog (G q) 112 t1:=⟨_,A2x _ _ _ _,A3m hcc (fun hf=>hf)⟩
   have C1:Ctx Tryz.prog (G q) _:=A0x.nil.ctxH (A2a.cons ok1 .nil) mixed;have mk:exM (.mkf (.func 121) 0) [.ptr 1 0]=some (.fn (.func 121) [] [.ptr 1 0]):=rfl
   cases hany:(ds.take j).any fun y=>decide (y.p=d.p)with
   | true=>
    rw[if_pos hany]at hck;rw[hck,if_pos (by omega)]at heq;rw[hany]at o1;refine A0c C1 ?_;simp -implicitDefEqProofs [y.l3,sl,mk,o1,<-heq,A5u]
   | false=>
    rw[if_neg (by simp[hany])]at hck;rw[hck]at heq;rw[hany]at o1;refine A0c C1 ?_;simp -implicitDefEqProofs [y.l3,sl,mk,o1];refine⟨rfl,?_⟩;refine A0c C ?_;simp -implicitDefEqProofs only[runsM_ops,runsL_cons,runsL_nil];simp -implicitDefEqProofs [e1];refine Abs.Next.mk (j+1) ⟨⟨by omega,by simpa using heq⟩,by omega⟩ ?_;refine A7z (by omega) (fun q hq=>?_) (by simp -implicitDefEqProofs [under]);simp only[List.mem_singleton]at hq;subst hq;obtain⟨ty,cs,rfl⟩:=hXc;exact⟨rfl,by show 0<1;omega,A1e _ _⟩
  ·rw[List.drop_of_length_le (by omega),A8w,if_neg (fun e=>e rfl)]at heq;refine A0c C ?_;simp -implicitDefEqProofs [SIt,hlt];exact Abs.Next.mk () heq.symm (A0d (by simp -implicitDefEqProofs))
 rintro _ hRG;have eP:=G0t hgD hWd
 have z0:=(IsD.enc A1n)
 have eC:=C6z hgD (IsD.enc A1n) hWd.2.2 (by decide);have bz:∀(Φ:A0n) (H:Heap) (nx:Nat),A0f Φ H nx (.build [(0,1),(1,1),(2,1),(3,1),(4,1)] [.int .i64 0,.string ⟨#[]⟩,.int .i64 0,.int .i64 0,.slice none 0 0] []) []=some (.t (.ag (encD A1n)),H,nx):=fun _ _ _=>bdZ5;unfold chkG at hRG;simp only[hg,Dv.frm,Dv.to]at hRG;have g5:=z.g;refine A0c C ?_;by_cases s1:st=1
 ·rw[if_pos s1]at hRG;by_cases s2:f=0
  ·by_cases s3:t=(ws.length:Int)
   ·rw[if_neg (by omega)]at hRG;rw[<-hg]at hRG;subst s1;subst s2;subst s3
    cases hsp:C2f gold with
    | true=>rw[hsp,if_pos rfl]at hRG;rw[hsp]at eP;simp -implicitDefEqProofs [z.l2,z.l6,z.l7,z.l1,lw,g5,eP,hRG]
    | false=>rw[hsp,if_neg (by simp)]at hRG;rw[hsp]at eP;simp -implicitDefEqProofs [z.l2,z.l6,z.l7,z.l1,lw,g5,eP,hRG]
   ·rw[if_pos (.inr s3)]at hRG
    have hb:(t !=(ws.length:Int))=true:=by simpa using s3
    simp -implicitDefEqProofs [z.l2,z.l6,z.l7,z.l1,lw,s1,s2,s3,hb,hRG]
  ·rw[if_pos (.inl s2)]at hRG
   have hb:(f != 0)=true:=by simpa using s2
   simp -implicitDefEqProofs [z.l2,z.l6,z.l7,z.l1,lw,s1,s2,hb,hRG]
 ·rw[if_neg s1]at hRG;rw[<-hg]at hRG
  have b1:(st==1)=false:=by simpa using s1
  have b2:(st != 1)=true:=by simpa using s1
  by_cases s4:cmpD gold A1n=0
  ·rw[if_pos s4]at hRG;simp -implicitDefEqProofs [z.l2,z.l6,z.l7,z.l1,lw,s1,b1,b2,g5,bz,eC,s4,hRG]
  ·rw[if_neg s4]at hRG
   have hb:(cmpD gold A1n != 0)=true:=by simpa using s4
   simp -implicitDefEqProofs [z.l2,z.l6,z.l7,z.l1,lw,s1,b1,b2,g5,bz,eC,hb,hRG]
noncomputable def gItm:List T->Option T:=g1 tIt fun c=>open Classical in if SmI c.x then some (iv (chkR c.x))else none
theorem hItm:GOK Tryz.prog (G q) 69 gItm:=A4c fun a c r ha hr=>by
 split at hr
 ·rename_i h;injection hr with hr;subst hr;have ha:a = .ag c.cs:=ha;subst ha;exact F1b c.ok h
 ·cases hr
theorem F1c (c:IC) (h:SmI c.x):gItm [.ag c.cs]=some (iv (chkR c.x)):=by
 show g1 _ _ _=_;rw[A5l (τ:=tIt) (x:=c) rfl,if_pos h]
theorem B3h {u:T} {l:List IC} (h:IsS eIC u l) {i:Nat} {c:IC} (hx:l[i]?=some c):∃p,A1b 9 (.t u) (.t (iv (i:Int)))=some (.t (.pt p))/\(∀H,A0e true 9 H (.t (.pt p))=some (.t (.ag c.cs))) /\
  (∀H,A0e false 1 H (.t (.pt p))=some (.t (sv c.x.id))):=by
 refine⟨_,h.iaddr hx .i64,fun H=>?_,fun H=>?_⟩
 ·have hl:c.cs.length=9:=c.ok.len;simp only[A0e,if_true];rw[if_pos (by simp[eIC,hl])];show some (PV.t (T.ag (List.take 9 (c.cs++_))))=_;rw[List.take_left' hl]
 ·obtain⟨tw,td,g,e,_,_,_⟩:=c.ok;show A0e false 1 H (.t (.pt (c.cs++rest eIC l i)))=_;rw[e];rfl
def A7n (l:List IC) (j:Nat):Option ByteArray:=match j with
 | 0=>none
 | k+1=>(l[k]?).map (·.x.id)
structure SmB (ver:ByteArray) (l:List IC):Prop where
 ver:ver.size<=lim
 len:l.length<=1000000
 items:∀c∈l,SmI c.x
def bRow (ver:ByteArray) (u:T):Row:=.cells 39 [.t (sv ver),.t u]
structure LdB (ver:ByteArray) (u:T) (H:Heap) (b:Nat):Prop where
 l0:A0e false 1 H (.ptr b 0)=some (.t (sv ver))
 l1:A0e false 1 H (.ptr b 1)=some (.t u)
 a:A0e true 2 H (.ptr b 0)=some (.t (.ag [sv ver,u]))
theorem ldB {ver:ByteArray} {u:T} {H:Heap} {b:Nat} (h:Abs.look H b=some (bRow ver u)):LdB ver u H b:=by
 constructor<;>simp[A0e,h,bRow,agOf,allT]
theorem st_it (H:Heap) (id:ByteArray) (tw:T) (st:Int) (td:T) (k:Int) (nm:ByteArray) (f t:Int) (tk:T) :
  A0h 9 ((1,Row.cells 28 [.t (.v (.string ⟨#[]⟩)),.t nilS,.t (.v (.int .i64 0)),.t nilS,.t (.v (.int .i64 0)),.t (.v (.string ⟨#[]⟩)),.t (.v (.int .i64 0)),.t (.v (.int .i64 0)),.t nilS])::H) (.ptr 1 0) (.t (.ag [sv id,tw,iv st,td,iv k,sv nm,iv f,iv t,tk]))=some ((1,iRow id tw st td k nm f t tk)::H):=rfl
theorem C3v (p id:ByteArray):(!(A8v p id))=C0k (some p) id:=by
 unfold C0k;rw[B4a];by_cases h:lbs p<lbs id
 ·simp[cmpS,h,List.lt_asymm h]
 ·by_cases k:lbs id<lbs p
  ·simp[cmpS,h,k]
  ·simp[cmpS,h,k]
def SCk (X:Row) (u:T) (n j:Nat):A0b:=⟨[(17,.t (iv (j:Int))),(16,.t (iv (n:Int))),(15,.t u),(1,.ptr 0 0)],[(0,X)],1,46⟩
theorem E5h {ver:ByteArray} {u:T} {l:List IC} (hu:IsS eIC u l) (hs:SmB ver l):A0v Tryz.prog (G q) 37 [.ag [sv ver,u]] (· = iv (chkT ⟨ver,l.map IC.x⟩)):=by
 have cd:A0q (.t (.ag [sv ver,u]))=some [.t (sv ver),.t u]:=rfl;have lu:=hu.len;have eV:=B4v hs.ver;have hll:=hs.len
 obtain⟨X,hX⟩:∃X,X=bRow ver u:=⟨_,rfl⟩
 have hXc:∃(ty:Nat) (cs:List T),X = .cells ty (cs.map .t):=⟨_,[sv ver,u],hX⟩
 have L0:∀R:Heap,LdB ver u ((0,X)::R) 0:=fun R=>ldB (by rw[hX];rfl);have L1:∀(Y:Row) (R:Heap),LdB ver u ((1,Y)::(0,X)::R) 0:=fun Y R=>ldB (by rw[hX];rfl);have C:Ctx Tryz.prog (G q) _:=(A0x.cons (hNm (q:=q)) (.cons (hItm (q:=q)) .nil)).ctx mixed;refine C0l.call rfl ?_;(conv in B1r=>cbv)
 obtain⟨R,hR⟩:∃R,R=chkT ⟨ver,l.map IC.x⟩:=⟨_,rfl⟩
 rw[<-hR];rw[chkT]at hR;simp only[List.length_map]at hR;have z:=L0 [];refine A0a C ?_;simp -implicitDefEqProofs [cd];rw[show Row.cells 39 [.t (sv ver),.t u]=X from hX.symm]
 cases h1:A0y false ver with
 | false=>
  rw[if_pos h1]at hR;rw[h1]at eV;refine A0a C ?_;simp -implicitDefEqProofs [z.l0,eV,hR]
 | true=>
 rw[if_neg (by rw[h1];decide)]at hR;rw[h1]at eV;refine A0a C ?_;simp -implicitDefEqProofs [z.l0,eV];by_cases h4:256<l.length
 ·rw[if_pos h4]at hR
  have hc:decide ((256:Int)<(l.length:Int))=true:=by simpa using (by omega:(256:Int)<(l.length:Int))
  refine A0a C ?_;simp -implicitDefEqProofs [z.l1,lu,hc,hR]
 rw[if_neg h4]at hR
 have hc:decide ((256:Int)<(l.length:Int))=false:=by simpa using (by omega:(l.length:Int)<=256)
 refine A0a C ?_;simp -implicitDefEqProofs [z.l1,lu,hc];refine A0s (α:=Unit) (fun _=>⟨[(1,.ptr 0 0)],[(0,X)],1,46⟩) (fun _=>R=0) (fun _=>rfl) ?_ ?_
 ·refine A0a C ?_;simp -implicitDefEqProofs [z.l1,lu];refine A0g ?_;refine A0t (SCk X u l.length) (fun j=>l.length-j) (fun j=>j<=l.length/\R=chkL (A7n l j) ((l.map IC.x).drop j)) 0 (fun _=>rfl) ⟨Nat.zero_le _,hR⟩ ?_ rfl ?_
  ·refine A0d ?_;simp -implicitDefEqProofs [SCk]
  rintro j ⟨hj,heq⟩;by_cases hlt:j<l.length
  ·obtain⟨c,hc⟩:∃c,l[j]?=some c:=⟨_,List.getElem?_eq_getElem hlt⟩
   obtain⟨pp,i1,ld9,_⟩:=B3h hu hc;have hsc:=hs.items c (List.mem_of_getElem? hc);have eI:=F1c c hsc;have eN:=B4v hsc.id
   have hd:(l.map IC.x).drop j=c.x::(l.map IC.x).drop (j+1):=by
    rw[List.drop_eq_getElem_cons (by simpa using hlt),List.getElem_map,(List.getElem?_eq_some_iff.1 hc).2]
   have hpn:A7n l (j+1)=some c.x.id:=by simp[A7n,hc]
   rw[hd,chkL,<-hpn]at heq;have e1:IntKind.i64.wrap ((j:Int)+1)=((j+1:Nat):Int):=A0j (by omega) (by omega);obtain⟨tw,td,k,nm,f,t,tk,ks,ecs,_⟩:=A1g c.ok;rw[ecs]at ld9 eI;have y:=L1 (iRow c.x.id tw c.x.state td k nm f t tk) [];have yI:=ldI c.x.id tw c.x.state td k nm f t tk (H:=[(1,iRow c.x.id tw c.x.state td k nm f t tk),(0,X)]) (b:=1) rfl;have st9:=st_it [(0,X)] c.x.id tw c.x.state td k nm f t tk;refine A0a C ?_;simp -implicitDefEqProofs [SCk,hlt];refine A1p ?_;refine A0c C ?_;simp -implicitDefEqProofs;refine⟨rfl,?_⟩;refine A1p ?_;refine A0g ?_;refine A0a C ?_;simp -implicitDefEqProofs [i1,ld9,st9]
   cases g1:A0y false c.x.id with
   | false=>
    rw[if_pos g1]at heq;rw[g1]at eN;refine A0a C ?_;simp -implicitDefEqProofs [yI.l0,eN,heq,A5u]
   | true=>
   rw[if_neg (by rw[g1];decide)]at heq;rw[g1]at eN;refine A0a C ?_;simp -implicitDefEqProofs [yI.l0,eN];refine A0s (α:=Unit) (fun _=>⟨[(17,.t (iv (j:Int))),(16,.t (iv (l.length:Int))),(15,.t u),(4,.ptr 1 0),(1,.ptr 0 0)],[(1,iRow c.x.id tw c.x.state td k nm f t tk),(0,X)],2,46⟩) (fun _=>C0k (A7n l j) c.x.id=false) (fun _=>rfl) ?_ ?_
   ·by_cases h0:j=0
    ·have hl:C0k (A7n l j) c.x.id=false:=by rw[h0];rfl
     have b1:decide (0<j)=false:=by simpa using h0
     refine A0c C ?_;simp -implicitDefEqProofs [b1];refine Abs.Next.mk () hl ?_;exact A0d (by simp -implicitDefEqProofs)
    ·have hj1:j-1<l.length:=by omega
     obtain⟨c0,hc0⟩:∃c,l[j-1]?=some c:=⟨_,List.getElem?_eq_getElem hj1⟩
     obtain⟨pp0,i0,_,ldid⟩:=B3h hu hc0
     have hp:A7n l j=some c0.x.id:=by
      obtain⟨j',rfl⟩:∃j',j=j'+1:=⟨j-1,by omega⟩
      simp at hc0;simp[A7n,hc0]
     have b0:0<j:=by omega
     have e0:IntKind.i64.wrap ((j:Int)-1)=((j-1:Nat):Int):=by rw[show(j:Int)-1=((j-1:Nat):Int)by omega];exact A0j rfl (by omega)
     have hless:=C3v c0.x.id c.x.id;rw[<-hp]at hless
     cases hl:C0k (A7n l j) c.x.id with
     | true=>
      rw[hl]at hless;rw[if_pos hl]at heq;refine A0c C ?_;simp -implicitDefEqProofs [b0,yI.l0,y.l1,e0,i0,ldid,hless,heq,A5u]
     | false=>
      rw[hl]at hless;refine A0c C ?_;simp -implicitDefEqProofs [b0,yI.l0,y.l1,e0,i0,ldid,hless];refine Abs.Next.mk () (by simp[hl]) ?_;exact A0d (by simp -implicitDefEqProofs)
   rintro _ hl;rw[if_neg (by rw[hl];decide)]at heq;by_cases g2:chkR c.x=0
   ·rw[if_neg (fun e=>e g2)]at heq;rw[g2]at eI;refine A0c C ?_;simp -implicitDefEqProofs [yI.a,eI];refine⟨rfl,?_⟩;refine A0c C ?_;simp -implicitDefEqProofs only[runsM_ops,runsL_cons,runsL_nil];simp -implicitDefEqProofs [e1];refine Abs.Next.mk (j+1) ⟨⟨by omega,heq⟩,by omega⟩ ?_;refine A7z (by omega) (fun q hq=>?_) (by simp -implicitDefEqProofs [under]);simp only[List.mem_singleton]at hq;subst hq;obtain⟨ty,cs,rfl⟩:=hXc;exact⟨rfl,by show 0<1;omega,A1e _ _⟩
   ·rw[if_pos g2]at heq
    have hb:(R != 0)=true:=by rw[heq];simpa using g2
    refine A0c C ?_;simp -implicitDefEqProofs [yI.a,eI,<-heq,hb,A5u]
  ·rw[List.drop_of_length_le (by simp;omega),chkL]at heq;refine A0c C ?_;simp -implicitDefEqProofs [SCk,hlt];exact Abs.Next.mk () heq (A0d (by simp -implicitDefEqProofs))
 rintro _ hRG;refine A0c C ?_;simp -implicitDefEqProofs [hRG]
noncomputable def B5c:A0i:=cm Tryz.f21 61
theorem C5n {q:Gl}:FnOK Tryz.prog (G q) 21 2 61 B5c [(.tmp 4)]:=fk Tryz.func21 (by kernel_rfl) (by kernel_rfl)
noncomputable def C7u:A0i:=cm Tryz.f25 39
theorem E5i {q:Gl}:FnOK Tryz.prog (G q) 25 2 39 C7u [(.tmp 4)]:=fk Tryz.func25 (by kernel_rfl) (by kernel_rfl)
noncomputable def A6c:A0i:=cm Tryz.f36 128
theorem B7x {q:Gl}:FnOK Tryz.prog (G q) 36 0 128 A6c [(.tmp 0)]:=fk Tryz.func36 (by kernel_rfl) (by kernel_rfl)
def SSa (t t':T) (j:Nat):A0b:=⟨[(5,.t (iv (j:Int))),(1,.t t'),(0,.t t)],[],0,26⟩
theorem F1d {t t':T} {l:List ByteArray} (h:IsS eStr t l) (h':IsS eStr t' l) (hl:l.length<=2000000):A0v Tryz.prog (G q) 57 [t,t'] (· = bv true):=by
 have C:=A0z (q:=q);have e1:=h.len;have e2:=h'.len;refine E3i.call rfl ?_;(conv in C6n=>cbv);refine A0a A0z ?_;simp -implicitDefEqProofs;refine A0a A0z ?_;simp -implicitDefEqProofs [e1,e2];refine A0s (α:=Unit) (fun _=>⟨[],[],0,26⟩) (fun _=>True) (fun _=>rfl) ?_ ?_
 ·refine A0a A0z ?_;simp -implicitDefEqProofs;refine A0g ?_;refine A0t (SSa t t') (fun j=>l.length-j) (fun j=>j<=l.length) 0 (fun _=>rfl) (Nat.zero_le _) ?_ rfl ?_
  ·refine A0d ?_;simp -implicitDefEqProofs [SSa]
  rintro j hj;by_cases hlt:j<l.length
  ·obtain⟨x,hx⟩:∃x,l[j]?=some x:=⟨_,List.getElem?_eq_getElem hlt⟩
   have i1:=h.iaddr hx .i64;have i2:=h'.iaddr hx .i64;have i1:A1b 1 (.t t) (.t (iv (j:Int)))=_:=i1;have i2:A1b 1 (.t t') (.t (iv (j:Int)))=_:=i2;have w1:IntKind.i64.wrap ((j:Int)+1)=((j+1:Nat):Int):=A0j (by omega) (by omega);refine A0c A0z ?_;simp -implicitDefEqProofs [SSa,e1,hlt,i1,i2,A0e,eStr,A2g,w1];refine Abs.Next.mk (j+1) ⟨by omega,by omega⟩ ?_;exact A0d (by simp -implicitDefEqProofs)
  ·refine A0c A0z ?_;simp -implicitDefEqProofs [SSa,e1,hlt];exact Abs.Next.mk () trivial (A0d fun q hq=>by cases hq)
 rintro _ _;refine A0c A0z ?_;simp -implicitDefEqProofs
noncomputable def G3z:List T->Option T:=g2 (tSl eStr) (tSl eStr) fun a b=>open Classical in if a=b/\a.length<=2000000 then some (bv true)else none
theorem G4a:GOK Tryz.prog (G q) 57 G3z:=A6w fun a b x y r ha hb hr=>by
 split at hr
 ·rename_i h;injection hr with hr;subst hr;obtain⟨rfl,hl⟩:=h;exact F1d ha hb hl
 ·cases hr
theorem E0z {t t':T} {l:List ByteArray} (h:IsS eStr t l) (h':IsS eStr t' l) (hl:l.length<=2000000):G3z [t,t']=some (bv true):=by
 show g2 _ _ _ _=_;rw[A7u (τ:=tSl eStr) (σ:=tSl eStr) h h',if_pos ⟨rfl,hl⟩]
theorem G4b (d:Dc):A1u [.i,.s,.i,.i,.b] (eDc.enc d) (eDc.enc d)=some true:=by
 simp[A1u,eDc]
theorem D4c (d:Dv):cmpD d d=0:=B7d.2 rfl
structure SmE (x:It):Prop where
 words:x.words.length<=2000000
 decs:x.decs.length<=1000000
 gold:nodD x.gold<=1000000
def SSi (X Y:Row) (j:Nat):A0b:=⟨[(5,.t (iv (j:Int))),(3,.ptr 1 0),(2,.ptr 0 0)],[(1,Y),(0,X)],2,61⟩
section
variable {x : It} {cs cs' : List T}
theorem C3w (h:IsIt x cs) (h':IsIt x cs') (hs:SmE x):A0v Tryz.prog (G q) 21 [.ag cs,.ag cs'] (· = bv true):=by
 obtain⟨tw,td,k,nm,f,t,tk,ks,rfl,hg,hk,hw,hd,hgD⟩:=A1g h;obtain⟨tw',td',k',nm',f',t',tk',ks',rfl,hg',hk',hw',hd',hgD'⟩:=A1g h';obtain⟨id,ws,st,ds,gold⟩:=x;obtain⟨s1,s2,s3⟩:=hs;simp only at s1 s2 s3 hg hw hd hgD hg' hw' hd' hgD';have cd:=B1m id tw st td k nm f t tk;have cd':=B1m id tw' st td' k' nm' f' t' tk'
 obtain⟨X,hX⟩:∃X,X=iRow id tw st td k nm f t tk:=⟨_,rfl⟩
 obtain⟨Y,hY⟩:∃Y,Y=iRow id tw' st td' k' nm' f' t' tk':=⟨_,rfl⟩
 have z:=ldI id tw st td k nm f t tk (H:=[(1,Y),(0,X)]) (b:=0) (by rw[hX];rfl);have y:=ldI id tw' st td' k' nm' f' t' tk' (H:=[(1,Y),(0,X)]) (b:=1) (by rw[hY];rfl);have eS:=E0z hw hw' s1;have eC:=C6z hgD hgD' s3 s3;rw[D4c]at eC;have l1:=hd.len;have l2:=hd'.len;have C:Ctx Tryz.prog (G q) _:=(A0x.cons (G4a (q:=q)) (.cons (F9u (q:=q)) .nil)).ctx mixed;refine C5n.call rfl ?_;(conv in B5c=>cbv);refine A0a C ?_;simp -implicitDefEqProofs [cd,cd'];rw[show Row.cells 28 [.t (sv id),.t tw,.t (iv st),.t td,.t (iv k),.t (sv nm),.t (iv f),.t (iv t),.t tk]=X from hX.symm];rw[show Row.cells 28 [.t (sv id),.t tw',.t (iv st),.t td',.t (iv k'),.t (sv nm'),.t (iv f'),.t (iv t'),.t tk']=Y from hY.symm];refine A0a C ?_;simp -implicitDefEqProofs [z.l0,y.l0,z.l1,y.l1,z.l2,y.l2,z.l3,y.l3,z.g,y.g,eS,eC,l1,l2,A2g];refine A0s (α:=Unit) (fun _=>⟨[],[],0,61⟩) (fun _=>True) (fun _=>rfl) ?_ ?_
 ·refine A0a C ?_;simp -implicitDefEqProofs;refine A0g ?_;refine A0t (SSi X Y) (fun j=>ds.length-j) (fun j=>j<=ds.length) 0 (fun _=>rfl) (Nat.zero_le _) ?_ rfl ?_
  ·refine A7z (by omega) (fun r hr=>?_) (by simp -implicitDefEqProofs [SSi,under]);simp only[List.mem_cons,List.not_mem_nil,or_false]at hr;rcases hr with rfl | rfl
   ·exact⟨rfl,by show 1<2;omega,by rw[hY];exact A1e _ [sv id,tw',iv st,td',iv k',sv nm',iv f',iv t',tk']⟩
   ·exact⟨rfl,by show 0<2;omega,by rw[hX];exact A1e _ [sv id,tw,iv st,td,iv k,sv nm,iv f,iv t,tk]⟩
  rintro j hj;by_cases hlt:j<ds.length
  ·obtain⟨d,hx⟩:∃d,ds[j]?=some d:=⟨_,List.getElem?_eq_getElem hlt⟩
   obtain⟨p1,i1,g1,_⟩:=C5g hd hx;obtain⟨p2,i2,g2,_⟩:=C5g hd' hx;have eq:=G4b d;have w1:IntKind.i64.wrap ((j:Int)+1)=((j+1:Nat):Int):=A0j (by omega) (by omega);refine A0c C ?_;simp -implicitDefEqProofs [SSi,z.l3,y.l3,l1,hlt,i1,i2,g1,g2,eq,w1];refine Abs.Next.mk (j+1) ⟨by omega,by omega⟩ ?_;refine A7z (by omega) (fun r hr=>?_) (by simp -implicitDefEqProofs [under]);simp only[List.mem_cons,List.not_mem_nil,or_false]at hr;rcases hr with rfl | rfl
   ·exact⟨rfl,by show 1<2;omega,by rw[hY];exact A1e _ [sv id,tw',iv st,td',iv k',sv nm',iv f',iv t',tk']⟩
   ·exact⟨rfl,by show 0<2;omega,by rw[hX];exact A1e _ [sv id,tw,iv st,td,iv k,sv nm,iv f,iv t,tk]⟩
  ·refine A0c C ?_;simp -implicitDefEqProofs [SSi,z.l3,l1,hlt];exact Abs.Next.mk () trivial (A5w (by omega) fun q hq=>by cases hq)
 rintro _ _;refine A0c C ?_;simp -implicitDefEqProofs
theorem C3x (h:IsIt x cs) (h':IsIt x cs') (hs:SmE x):A0v Tryz.prog (G q) 46 [.ag cs,.ag cs'] (· = bv true):=by
 obtain⟨tw,td,k,nm,f,t,tk,ks,rfl,hg,hk,hw,hd,hgD⟩:=A1g h;obtain⟨tw',td',k',nm',f',t',tk',ks',rfl,hg',hk',hw',hd',hgD'⟩:=A1g h';obtain⟨id,ws,st,ds,gold⟩:=x;obtain⟨s1,s2,s3⟩:=hs;simp only at s1 s2 s3 hg hw hd hgD hg' hw' hd' hgD';have cd:=B1m id tw st td k nm f t tk;have cd':=B1m id tw' st td' k' nm' f' t' tk'
 obtain⟨X,hX⟩:∃X,X=iRow id tw st td k nm f t tk:=⟨_,rfl⟩
 obtain⟨Y,hY⟩:∃Y,Y=iRow id tw' st td' k' nm' f' t' tk':=⟨_,rfl⟩
 have z:=ldI id tw st td k nm f t tk (H:=[(1,Y),(0,X)]) (b:=0) (by rw[hX];rfl);have y:=ldI id tw' st td' k' nm' f' t' tk' (H:=[(1,Y),(0,X)]) (b:=1) (by rw[hY];rfl);have eS:=E0z hw hw' s1;have eC:=C6z hgD hgD' s3 s3;rw[D4c]at eC;have l1:=hd.len;have l2:=hd'.len;have C:Ctx Tryz.prog (G q) _:=(A0x.cons (G4a (q:=q)) (.cons (F9u (q:=q)) .nil)).ctx mixed;refine C5k.call rfl ?_;(conv in B5a=>cbv);refine A0a C ?_;simp -implicitDefEqProofs [cd,cd'];rw[show Row.cells 28 [.t (sv id),.t tw,.t (iv st),.t td,.t (iv k),.t (sv nm),.t (iv f),.t (iv t),.t tk]=X from hX.symm];rw[show Row.cells 28 [.t (sv id),.t tw',.t (iv st),.t td',.t (iv k'),.t (sv nm'),.t (iv f'),.t (iv t'),.t tk']=Y from hY.symm];refine A0a C ?_;simp -implicitDefEqProofs [z.l0,y.l0,z.l1,y.l1,z.l2,y.l2,z.l3,y.l3,z.g,y.g,eS,eC,l1,l2,A2g];refine A0s (α:=Unit) (fun _=>⟨[],[],0,61⟩) (fun _=>True) (fun _=>rfl) ?_ ?_
 ·refine A0a C ?_;simp -implicitDefEqProofs;refine A0g ?_;refine A0t (SSi X Y) (fun j=>ds.length-j) (fun j=>j<=ds.length) 0 (fun _=>rfl) (Nat.zero_le _) ?_ rfl ?_
  ·refine A7z (by omega) (fun r hr=>?_) (by simp -implicitDefEqProofs [SSi,under]);simp only[List.mem_cons,List.not_mem_nil,or_false]at hr;rcases hr with rfl | rfl
   ·exact⟨rfl,by show 1<2;omega,by rw[hY];exact A1e _ [sv id,tw',iv st,td',iv k',sv nm',iv f',iv t',tk']⟩
   ·exact⟨rfl,by show 0<2;omega,by rw[hX];exact A1e _ [sv id,tw,iv st,td,iv k,sv nm,iv f,iv t,tk]⟩
  rintro j hj;by_cases hlt:j<ds.length
  ·obtain⟨d,hx⟩:∃d,ds[j]?=some d:=⟨_,List.getElem?_eq_getElem hlt⟩
   obtain⟨p1,i1,g1,_⟩:=C5g hd hx;obtain⟨p2,i2,g2,_⟩:=C5g hd' hx;have eq:=G4b d;have w1:IntKind.i64.wrap ((j:Int)+1)=((j+1:Nat):Int):=A0j (by omega) (by omega);refine A0c C ?_;simp -implicitDefEqProofs [SSi,z.l3,y.l3,l1,hlt,i1,i2,g1,g2,eq,w1];refine Abs.Next.mk (j+1) ⟨by omega,by omega⟩ ?_;refine A7z (by omega) (fun r hr=>?_) (by simp -implicitDefEqProofs [under]);simp only[List.mem_cons,List.not_mem_nil,or_false]at hr;rcases hr with rfl | rfl
   ·exact⟨rfl,by show 1<2;omega,by rw[hY];exact A1e _ [sv id,tw',iv st,td',iv k',sv nm',iv f',iv t',tk']⟩
   ·exact⟨rfl,by show 0<2;omega,by rw[hX];exact A1e _ [sv id,tw,iv st,td,iv k,sv nm,iv f,iv t,tk]⟩
  ·refine A0c C ?_;simp -implicitDefEqProofs [SSi,z.l3,l1,hlt];exact Abs.Next.mk () trivial (A5w (by omega) fun q hq=>by cases hq)
 rintro _ _;refine A0c C ?_;simp -implicitDefEqProofs
end
noncomputable def gSI:List T->Option T:=g2 tIt tIt fun a b=>open Classical in if a.x=b.x/\SmE a.x then some (bv true)else none
theorem hSI48:GOK Tryz.prog (G q) 21 gSI:=A6w fun a b x y r ha hb hr=>by
 split at hr
 ·rename_i h;injection hr with hr;subst hr;have ha:a = .ag x.cs:=ha;have hb:b = .ag y.cs:=hb;subst ha;subst hb;exact C3w x.ok (h.1▸y.ok) h.2
 ·cases hr
theorem G0u:GOK Tryz.prog (G q) 46 gSI:=A6w fun a b x y r ha hb hr=>by
 split at hr
 ·rename_i h;injection hr with hr;subst hr;have ha:a = .ag x.cs:=ha;have hb:b = .ag y.cs:=hb;subst ha;subst hb;exact C3x x.ok (h.1▸y.ok) h.2
 ·cases hr
theorem D4d (a b:IC) (h:a.x=b.x) (hs:SmE a.x):gSI [.ag a.cs,.ag b.cs]=some (bv true):=by
 show g2 _ _ _ _=_;rw[A7u (τ:=tIt) (σ:=tIt) (x:=a) (y:=b) rfl rfl,if_pos ⟨h,hs⟩]
def SSt (X Y:Row) (j:Nat):A0b:=⟨[(5,.t (iv (j:Int))),(3,.ptr 1 0),(2,.ptr 0 0)],[(1,Y),(0,X)],2,39⟩
section
variable {ver : ByteArray} {u u' : T} {l l' : List IC}
theorem F5v (h:IsS eIC u l) (h':IsS eIC u' l') (he:l.map IC.x=l'.map IC.x) (hl:l.length<=1000000) (hs:∀c∈l,SmE c.x):A0v Tryz.prog (G q) 25 [.ag [sv ver,u],.ag [sv ver,u']] (· = bv true):=by
 have hll:l'.length=l.length:=by have:=congrArg List.length he;simpa using this.symm
 have cd:A0q (.t (.ag [sv ver,u]))=some [.t (sv ver),.t u]:=rfl;have cd':A0q (.t (.ag [sv ver,u']))=some [.t (sv ver),.t u']:=rfl
 obtain⟨X,hX⟩:∃X,X=bRow ver u:=⟨_,rfl⟩
 obtain⟨Y,hY⟩:∃Y,Y=bRow ver u':=⟨_,rfl⟩
 have z:=ldB (ver:=ver) (u:=u) (H:=[(1,Y),(0,X)]) (b:=0) (by rw[hX];rfl);have y:=ldB (ver:=ver) (u:=u') (H:=[(1,Y),(0,X)]) (b:=1) (by rw[hY];rfl);have l1:=h.len;have l2:=h'.len;rw[hll]at l2;have C:Ctx Tryz.prog (G q) _:=(A0x.cons (hSI48 (q:=q)) .nil).ctx mixed;refine E5i.call rfl ?_;(conv in C7u=>cbv);refine A0a C ?_;simp -implicitDefEqProofs [cd,cd'];rw[show Row.cells 39 [.t (sv ver),.t u]=X from hX.symm,show Row.cells 39 [.t (sv ver),.t u']=Y from hY.symm];refine A0a C ?_;simp -implicitDefEqProofs [z.l0,y.l0,z.l1,y.l1,l1,l2,A2g];refine A0s (α:=Unit) (fun _=>⟨[],[],0,39⟩) (fun _=>True) (fun _=>rfl) ?_ ?_
 ·refine A0a C ?_;simp -implicitDefEqProofs;refine A0g ?_;refine A0t (SSt X Y) (fun j=>l.length-j) (fun j=>j<=l.length) 0 (fun _=>rfl) (Nat.zero_le _) ?_ rfl ?_
  ·refine A7z (by omega) (fun r hr=>?_) (by simp -implicitDefEqProofs [SSt,under]);simp only[List.mem_cons,List.not_mem_nil,or_false]at hr;rcases hr with rfl | rfl
   ·exact⟨rfl,by show 1<2;omega,by rw[hY];exact A1e _ [sv ver,u']⟩
   ·exact⟨rfl,by show 0<2;omega,by rw[hX];exact A1e _ [sv ver,u]⟩
  rintro j hj;by_cases hlt:j<l.length
  ·obtain⟨c,hx⟩:∃c,l[j]?=some c:=⟨_,List.getElem?_eq_getElem hlt⟩
   obtain⟨c',hx'⟩:∃c,l'[j]?=some c:=⟨_,List.getElem?_eq_getElem (by omega)⟩
   obtain⟨p1,i1,g1,_⟩:=B3h h hx;obtain⟨p2,i2,g2,_⟩:=B3h h' hx'
   have hcc:c.x=c'.x:=by
    have:=congrArg (fun m=>m[j]?) he;simpa[List.getElem?_map,hx,hx']using this
   have eS:=D4d c c' hcc (hs c (List.mem_of_getElem? hx));have w1:IntKind.i64.wrap ((j:Int)+1)=((j+1:Nat):Int):=A0j (by omega) (by omega);refine A0c C ?_;simp -implicitDefEqProofs [SSt,z.l1,y.l1,l1,hlt,i1,i2,g1,g2,eS,w1];refine Abs.Next.mk (j+1) ⟨by omega,by omega⟩ ?_;refine A7z (by omega) (fun r hr=>?_) (by simp -implicitDefEqProofs [under]);simp only[List.mem_cons,List.not_mem_nil,or_false]at hr;rcases hr with rfl | rfl
   ·exact⟨rfl,by show 1<2;omega,by rw[hY];exact A1e _ [sv ver,u']⟩
   ·exact⟨rfl,by show 0<2;omega,by rw[hX];exact A1e _ [sv ver,u]⟩
  ·refine A0c C ?_;simp -implicitDefEqProofs [SSt,z.l1,l1,hlt];exact Abs.Next.mk () trivial (A5w (by omega) fun q hq=>by cases hq)
 rintro _ _;refine A0c C ?_;simp -implicitDefEqProofs
theorem B7y (h:IsS eIC u l) (h':IsS eIC u' l') (he:l.map IC.x=l'.map IC.x) (hl:l.length<=1000000) (hs:∀c∈l,SmE c.x):A0v Tryz.prog (G q) 41 [.ag [sv ver,u],.ag [sv ver,u']] (· = bv true):=by
 have hll:l'.length=l.length:=by have:=congrArg List.length he;simpa using this.symm
 have cd:A0q (.t (.ag [sv ver,u]))=some [.t (sv ver),.t u]:=rfl;have cd':A0q (.t (.ag [sv ver,u']))=some [.t (sv ver),.t u']:=rfl
 obtain⟨X,hX⟩:∃X,X=bRow ver u:=⟨_,rfl⟩
 obtain⟨Y,hY⟩:∃Y,Y=bRow ver u':=⟨_,rfl⟩
 have z:=ldB (ver:=ver) (u:=u) (H:=[(1,Y),(0,X)]) (b:=0) (by rw[hX];rfl);have y:=ldB (ver:=ver) (u:=u') (H:=[(1,Y),(0,X)]) (b:=1) (by rw[hY];rfl);have l1:=h.len;have l2:=h'.len;rw[hll]at l2;have C:Ctx Tryz.prog (G q) _:=(A0x.cons (G0u (q:=q)) .nil).ctx mixed;refine E5c.call rfl ?_;(conv in C7q=>cbv);refine A0a C ?_;simp -implicitDefEqProofs [cd,cd'];rw[show Row.cells 39 [.t (sv ver),.t u]=X from hX.symm,show Row.cells 39 [.t (sv ver),.t u']=Y from hY.symm];refine A0a C ?_;simp -implicitDefEqProofs [z.l0,y.l0,z.l1,y.l1,l1,l2,A2g];refine A0s (α:=Unit) (fun _=>⟨[],[],0,39⟩) (fun _=>True) (fun _=>rfl) ?_ ?_
 ·refine A0a C ?_;simp -implicitDefEqProofs;refine A0g ?_;refine A0t (SSt X Y) (fun j=>l.length-j) (fun j=>j<=l.length) 0 (fun _=>rfl) (Nat.zero_le _) ?_ rfl ?_
  ·refine A7z (by omega) (fun r hr=>?_) (by simp -implicitDefEqProofs [SSt,under]);simp only[List.mem_cons,List.not_mem_nil,or_false]at hr;rcases hr with rfl | rfl
   ·exact⟨rfl,by show 1<2;omega,by rw[hY];exact A1e _ [sv ver,u']⟩
   ·exact⟨rfl,by show 0<2;omega,by rw[hX];exact A1e _ [sv ver,u]⟩
  rintro j hj;by_cases hlt:j<l.length
  ·obtain⟨c,hx⟩:∃c,l[j]?=some c:=⟨_,List.getElem?_eq_getElem hlt⟩
   obtain⟨c',hx'⟩:∃c,l'[j]?=some c:=⟨_,List.getElem?_eq_getElem (by omega)⟩
   obtain⟨p1,i1,g1,_⟩:=B3h h hx;obtain⟨p2,i2,g2,_⟩:=B3h h' hx'
   have hcc:c.x=c'.x:=by
    have:=congrArg (fun m=>m[j]?) he;simpa[List.getElem?_map,hx,hx']using this
   have eS:=D4d c c' hcc (hs c (List.mem_of_getElem? hx));have w1:IntKind.i64.wrap ((j:Int)+1)=((j+1:Nat):Int):=A0j (by omega) (by omega);refine A0c C ?_;simp -implicitDefEqProofs [SSt,z.l1,y.l1,l1,hlt,i1,i2,g1,g2,eS,w1];refine Abs.Next.mk (j+1) ⟨by omega,by omega⟩ ?_;refine A7z (by omega) (fun r hr=>?_) (by simp -implicitDefEqProofs [under]);simp only[List.mem_cons,List.not_mem_nil,or_false]at hr;rcases hr with rfl | rfl
   ·exact⟨rfl,by show 1<2;omega,by rw[hY];exact A1e _ [sv ver,u']⟩
   ·exact⟨rfl,by show 0<2;omega,by rw[hX];exact A1e _ [sv ver,u]⟩
  ·refine A0c C ?_;simp -implicitDefEqProofs [SSt,z.l1,l1,hlt];exact Abs.Next.mk () trivial (A5w (by omega) fun q hq=>by cases hq)
 rintro _ _;refine A0c C ?_;simp -implicitDefEqProofs
end
end Go.Proofs.YtmplckgbeaifkaaGreatDoor
namespace Go.Abs
open Go
section
variable {P : Program} {G : A0w} {B : Nat}
theorem C0i:∀(F:List Nat) (H:Heap) (k:Nat),k∉F->look (remAll H F) k=look H k
 | [],H,k,_=>rfl
 | b::F,H,k,h=>by
  rw[List.mem_cons,not_or]at h;show look (remAll (rem H b) F) k=_;rw[C0i F _ k h.2,A2o,if_neg h.1]
theorem F5w {α:Type} {e:Enc α} {ty b:Nat} {H:Heap} {l:List α} (h:A1h e ty H b l):frzP H [b] (rowP e b l) = .t (A1a e l):=by
 unfold frzP;rw[h.toT];cases l<;>simp[E3c]
theorem A8b (F:List Nat) {env env':List (Nat×PV)} {H R:Heap} {nx nx' n:Nat} (hB:B<=nx') (hR:∀q∈R,q.1∉F/\(∃r0,Abs.look H q.1=some r0/\C6i H F r0=q.2)/\q.1<nx'/\A2e nx' q.2=true)
  (he:∀q∈env',(∃p0,Abs.look env q.1=some p0/\frzP H F p0=q.2)/\under nx' q.2=true):Sub P G B ⟨env,H,nx,n⟩ ⟨env',R,nx',n⟩:=by
 refine(C8p F).trans ?_;unfold A0b.frz;refine A7z hB (fun q hq=>?_) fun q hq=>?_
 ·obtain⟨h1,⟨r0,h2,h3⟩,h4,h5⟩:=hR q hq;refine⟨?_,h4,h5⟩;rw[B1b,C0i _ _ _ h1,h2,<-h3];rfl
 ·obtain⟨⟨p0,h1,h2⟩,h3⟩:=he q hq;refine⟨?_,h3⟩;rw[B1b,h1,<-h2];rfl
end
end Go.Abs
namespace Go.Proofs.YtmplckgbeaifkaaGreatDoor
open Go Go.Abs
variable {q : Gl}
section
variable (id : ByteArray) (tw : T) (st : Int) (td : T) (k : Int) (nm : ByteArray) (f t : Int) (tk : T) (R : Heap)
theorem sI9 (b:Nat) (cs0:List PV) (h:cs0.length=9):A0h 9 ((b,.cells 28 cs0)::R) (.ptr b 0) (.t (.ag [sv id,tw,iv st,td,iv k,sv nm,iv f,iv t,tk]))=some ((b,iRow id tw st td k nm f t tk)::R):=by
 match cs0,h with
 | [_,_,_,_,_,_,_,_,_],_=>simp[A0h,A0q,A3h,look,iRow]
theorem sI10 (id':ByteArray) (tw':T) (st':Int) (td':T) (k':Int) (nm':ByteArray) (f' t':Int) (tk':T) :
  A0h 9 ((1,iRow id' tw' st' td' k' nm' f' t' tk')::R) (.ptr 1 0) (.t (.ag [sv id,tw,iv st,td,iv k,sv nm,iv f,iv t,tk]))=some ((1,iRow id tw st td k nm f t tk)::R):=rfl
end
def zI:Row:=iRow ⟨#[]⟩ nilS 0 nilS 0 ⟨#[]⟩ 0 0 nilS
end Go.Proofs.YtmplckgbeaifkaaGreatDoor
namespace Go.Abs
open Go
section
variable {P : Program} {G : A0w} {B : Nat} {α β : Type}
theorem B9b {e:Enc α} {ty b c:Nat} {l:List α} {H:Heap} (h:c≠b):look (rowH e ty b l++H) c=look H c:=by
 cases l with
 | nil=>rfl
 | cons x r=>simp only[rowH,List.cons_append,List.nil_append,look_cons,if_neg (Ne.symm h)]
end
end Go.Abs
namespace Go.Proofs.YtmplckgbeaifkaaGreatDoor
open Go Go.Abs
variable {q : Gl}
noncomputable def gChk:List T->Option T:=g1 tTb fun b=>open Classical in if SmB b.ver b.items then some (iv (chkT b.tb))else none
theorem hChk:GOK Tryz.prog (G q) 37 gChk:=A4c fun a b r ha hr=>by
 split at hr
 ·rename_i h;injection hr with hr;subst hr;obtain⟨u,rfl,hu⟩:=ha;exact E5h hu h
 ·cases hr
theorem C3y {ver:ByteArray} {u:T} {l:List IC} (hu:IsS eIC u l) (hs:SmB ver l):gChk [.ag [sv ver,u]]=some (iv (chkT ⟨ver,l.map IC.x⟩)):=by
 show g1 _ _ _=_;rw[A5l (τ:=tTb) (x:=⟨ver,l⟩) ⟨u,rfl,hu⟩,if_pos hs];rfl
section
variable (ver version : ByteArray) (u tl : T) (n : Nat)
def oRow (version:ByteArray) (p:PV):Row:=.cells 39 [.t (sv version),p]
end
theorem bd2 (Φ:A0n) (H:Heap) (nx:Nat) (v:ByteArray):A0f Φ H nx (.build [(0,1),(1,1)] [.string ⟨#[]⟩,.slice none 0 0] [0]) [.t (sv v)]=some (.t (.ag [sv v,nilS]),H,nx):=rfl
theorem A7c {α:Type} {e:Enc α} {ty b:Nat} {H:Heap} {l:List α} {F:List Nat} (h:A1h e ty H b l) (hb:b∈F):frzP H F (rowP e b l) = .t (A1a e l):=by
 unfold frzP;rw[h.toT];cases l<;>simp[E3c,hb]
theorem sBu {H:Heap} {b:Nat} {v v':ByteArray} {u u':T} {l:List IC} (h:Abs.look H b=some (bRow v' u')) (hu:IsS eIC u l):A0h 2 H (.ptr b 0) (.t (.ag [sv v,u]))=some (upd H b (bRow v u)):=by
 rcases hu with⟨rfl,_⟩ | rfl<;>simp[A0h,A0q,A3h,h,bRow]
theorem ldO {H:Heap} {b:Nat} {v:ByteArray} {p:PV} (h:Abs.look H b=some (oRow v p)):A0e false 1 H (.ptr b 1)=some p:=by
 simp[A0e,h,oRow]
theorem sO {H:Heap} {b:Nat} {v:ByteArray} {p p':PV} (h:Abs.look H b=some (oRow v p)) (hp:A0q p'=some [p']):A0h 1 H (.ptr b 1) p'=some (upd H b (oRow v p')):=by
 simp[A0h,hp,h,oRow,A3h]
theorem bsI (id:ByteArray) (tw:T) (st:Int) (td:T) (k:Int) (nm:ByteArray) (f t:Int) (tk:T) (m:Nat):A3l 28 9 [.string ⟨#[]⟩,.slice none 0 0,.int .i64 0,.slice none 0 0,.int .i64 0,.string ⟨#[]⟩,.int .i64 0,.int .i64 0,.slice none 0 0] 1 [(0,.t (.ag [sv id,tw,iv st,td,iv k,sv nm,iv f,iv t,tk]))] m=some (.row m 0 1 9,iRow id tw st td k nm f t tk):=rfl
theorem F1e {d:Dv} (h:Wd d):(prtD d).length<=2100000000000:=by
 have:=C9m d h.1 h.2.1;have:=h.2.2;omega
theorem E5j {x:It} {cs:List T} (h:IsIt x cs) (hw:x.words.length<=2000000) (hWd:Wd x.gold):A0v Tryz.prog (G q) 110 [.ag cs] (· = iv (chkG x)):=by
 obtain⟨tw,td,k,nm,f,t,tk,ks,rfl,hg,hk,hws,hd,hgD⟩:=A1g h;obtain⟨id,ws,st,ds,gold⟩:=x;simp only at hg hws hd hgD hw hWd;have cd:=B1m id tw st td k nm f t tk;have lw:=hws.len
 obtain⟨X,hX⟩:∃X,X=iRow id tw st td k nm f t tk:=⟨_,rfl⟩
 have L0:∀R:Heap,LdI id tw st td k nm f t tk ((0,X)::R) 0:=fun R=>ldI _ _ _ _ _ _ _ _ _ (by rw[hX];rfl);have L1:∀(Y:Row) (R:Heap),LdI id tw st td k nm f t tk ((1,Y)::(0,X)::R) 0:=fun Y R=>ldI _ _ _ _ _ _ _ _ _ (by rw[hX];rfl);have z:=L0 [];have C:Ctx Tryz.prog (G q) _:=(A0x.cons (F9u (q:=q)) (.cons (G2t (q:=q)) (.cons (G2x (q:=q)) .nil))).ctx mixed;have eZ:=C6z hgD (IsD.enc A1n) hWd.2.2 (by decide);have eP:=E9k hgD hWd;have eA:=E9t (F1e hWd);have bz:∀(Φ:A0n) (H:Heap) (nx:Nat),A0f Φ H nx (.build [(0,1),(1,1),(2,1),(3,1),(4,1)] [.int .i64 0,.string ⟨#[]⟩,.int .i64 0,.int .i64 0,.slice none 0 0] []) []=some (.t (.ag (encD A1n)),H,nx):=fun _ _ _=>bdZ5
 obtain⟨R,hR⟩:∃R,R=chkG ⟨id,ws,st,ds,gold⟩:=⟨_,rfl⟩
 rw[<-hR];unfold chkG at hR;simp only[hg,Dv.frm,Dv.to]at hR;rw[<-hg]at hR
 have hsp:C2f gold=(match parD (prtD gold)with | .ok x=>decide (cmpD x gold=0) | .error _=>false):=by
  unfold C2f;cases parD (prtD gold)<;>rfl
 refine C3t.call rfl ?_;(conv in B3e=>cbv);refine A0a C ?_;simp -implicitDefEqProofs [cd];rw[show Row.cells 28 [.t (sv id),.t tw,.t (iv st),.t td,.t (iv k),.t (sv nm),.t (iv f),.t (iv t),.t tk]=X from hX.symm];by_cases s1:st=1
 rotate_left
 ·rw[if_neg s1]at hR
  have b1:(st != 1)=true:=by simpa using s1
  by_cases s4:cmpD gold A1n=0
  ·rw[if_pos s4]at hR;refine A0a C ?_;simp -implicitDefEqProofs [z.l2,b1,z.g,bz,eZ,s4,hR]
  ·rw[if_neg s4]at hR
   have hb:(cmpD gold A1n != 0)=true:=by simpa using s4
   refine A0a C ?_;simp -implicitDefEqProofs [z.l2,b1,z.g,bz,eZ,hb,hR]
 rw[if_pos s1]at hR;subst s1;refine A0a C ?_;simp -implicitDefEqProofs [z.l2];by_cases s2:f=0
 rotate_left
 ·rw[if_pos (.inl s2)]at hR
  have hb:(f != 0)=true:=by simpa using s2
  refine A0a C ?_;simp -implicitDefEqProofs [z.l6,hb,hR]
 by_cases s3:t=(ws.length:Int)
 rotate_left
 ·rw[if_pos (.inr s3)]at hR
  have hb:(t !=(ws.length:Int))=true:=by simpa using s3
  refine A0a C ?_;simp -implicitDefEqProofs [z.l6,z.l7,z.l1,lw,s2,hb,hR]
 rw[if_neg (by omega)]at hR;subst s2;subst s3;refine A0a C ?_;simp -implicitDefEqProofs [z.l6,z.l7,z.l1,lw]
 obtain⟨P,hP⟩:∃P,P=prtD gold:=⟨_,rfl⟩
 rw[<-hP]at eP eA hsp
 cases hpar:parD P with
 | error e=>
  have he:=D0a hpar
  have hb:(e != 0)=true:=by simpa using he
  have ep:parT P = .tu [.ag (encD A1n),iv e]:=by unfold parT;rw[hpar]
  rw[ep]at eA;rw[hsp,hpar,if_neg (by simp)]at hR;have st:A0h 5 (zD5 1::[(0,X)]) (.ptr 1 0) (.t (.ag (encD A1n)))=some ((1,.cells 26 ((encD A1n).map .t))::[(0,X)]):=B1k 1 [(0,X)] A1n (IsD.enc A1n);refine A0a C ?_;simp -implicitDefEqProofs [z.g,eP,eA,st];refine A0c C ?_;simp -implicitDefEqProofs [hb,hR]
 | ok x=>
  have hx:=E0y hpar
  have ep:parT P = .tu [.ag (encD x),iv 0]:=by unfold parT;rw[hpar]
  rw[ep]at eA;rw[hsp,hpar]at hR;have st:A0h 5 (zD5 1::[(0,X)]) (.ptr 1 0) (.t (.ag (encD x)))=some ((1,.cells 26 ((encD x).map .t))::[(0,X)]):=B1k 1 [(0,X)] x (IsD.enc x);have ld2:A0e true 5 ((1,.cells 26 ((encD x).map .t))::[(0,X)]) (.ptr 1 0)=some (.t (.ag (encD x))):=B6b 1 [(0,X)] x (IsD.enc x);have y:=L1 (.cells 26 ((encD x).map .t)) [];have eC:=C6z (IsD.enc x) hgD (by omega) hWd.2.2
  obtain⟨Y,hY⟩:∃Y,Y=Row.cells 26 ((encD x).map .t):=⟨_,rfl⟩
  rw[<-hY]at st ld2 y;refine A0a C ?_;simp -implicitDefEqProofs [z.g,eP,eA,st];by_cases h0:cmpD x gold=0
  ·rw[h0]at eC;simp only[h0,decide_true,if_true]at hR;refine A0c C ?_;simp -implicitDefEqProofs [ld2,y.g,eC,hR]
  ·have hb:(cmpD x gold != 0)=true:=by simpa using h0
   simp only[h0,decide_false,Bool.false_eq_true,if_false]at hR;refine A0c C ?_;simp -implicitDefEqProofs [ld2,y.g,eC,hb,hR]
theorem G4c {P:Program} {G:A0w} {F:Nat} {args:List T} {r:T} (h:A0v P G F args (· = r)):∃t1:List T->Option T,t1 args=some r/\GOK P G F t1:=by
 refine⟨fun ts=>open Classical in if ts=args then some r else none,if_pos rfl,fun ts r' e=>?_⟩;simp only at e;split at e
 ·rename_i hh;injection e with e;subst hh;subst e;exact h
 ·cases e
def decE (n:Int) (ds:List Dc) (i:Nat) (d:Dc):Int:=if chkP d.p n≠0 then chkP d.p n else if(ds.take i).any (fun y=>decide (y.p=d.p))then 4 else 0
theorem F5x {n:Int} {ds:List Dc} {i:Nat} {d:Dc} (h:ds[i]?=some d):A8w n (ds.take i) (ds.drop i)=if decE n ds i d≠0 then decE n ds i d else A8w n (ds.take (i+1)) (ds.drop (i+1)):=by
 have hlt:i<ds.length:=(List.getElem?_eq_some_iff.1 h).1
 have htk:ds.take i++[d]=ds.take (i+1):=by rw[List.take_add_one,h];rfl
 rw[List.drop_eq_getElem_cons hlt,(List.getElem?_eq_some_iff.1 h).2,A8w,htk];unfold decE;by_cases h1:chkP d.p n=0
 ·simp only[h1,ne_eq,not_true_eq_false,if_false]
  cases h2:(ds.take i).any (fun y=>decide (y.p=d.p))with
  | true=>rw[if_pos rfl,if_pos rfl,if_pos (by decide)]
  | false=>rw[if_neg (by decide),if_neg (by decide)]
 ·rw[if_pos h1,if_pos h1,if_pos h1]
def SDe (X:Row) (p:Pr) (i j:Nat):A0b:=⟨[(6,.t (iv (j:Int))),(5,.ptr 1 0),(2,.ptr 0 0),(1,.t (iv (i:Int)))],[(1,pRow p),(0,X)],2,70⟩
theorem D7n:A0y false ⟨#[]⟩=false:=by rfl
theorem F1f {x:It} {cs:List T} (h:IsIt x cs) (hs:SmI x) {i:Nat} {d:Dc} (hdx:x.decs[i]?=some d):A0v Tryz.prog (G q) 109 [.ag cs,iv (i:Int)] (· = iv (decE x.words.length x.decs i d)):=by
 obtain⟨tw,td,k,nm,f,t,tk,ks,rfl,hg,hk,hw,hd,hgD⟩:=A1g h;obtain⟨id,ws,st,ds,gold⟩:=x;have hdl:=hs.len;have hdn:=hs.decs d (List.mem_of_getElem? hdx);simp only at hg hw hd hgD hdx hdl;have hil:i<ds.length:=(List.getElem?_eq_some_iff.1 hdx).1;have cd:=B1m id tw st td k nm f t tk;have lw:=hw.len;obtain⟨pp,i1,_,ld4,_⟩:=C5g hd hdx;have eN:=B4v hdn
 obtain⟨X,hX⟩:∃X,X=iRow id tw st td k nm f t tk:=⟨_,rfl⟩
 have hXc:∃(ty:Nat) (cs:List T),X = .cells ty (cs.map .t):=⟨_,[sv id,tw,iv st,td,iv k,sv nm,iv f,iv t,tk],hX⟩
 have L0:∀R:Heap,LdI id tw st td k nm f t tk ((0,X)::R) 0:=fun R=>ldI _ _ _ _ _ _ _ _ _ (by rw[hX];rfl);have L1:∀(Y:Row) (R:Heap),LdI id tw st td k nm f t tk ((1,Y)::(0,X)::R) 0:=fun Y R=>ldI _ _ _ _ _ _ _ _ _ (by rw[hX];rfl);have z:=L0 [];have y:=L1 (pRow d.p) [];have C:Ctx Tryz.prog (G q) _:=(A0x.cons (hRNm (q:=q)) .nil).ctx mixed
 obtain⟨R,hR⟩:∃R,R=decE (ws.length:Int) ds i d:=⟨_,rfl⟩
 show A0v _ _ _ _ (· = iv (decE (ws.length:Int) ds i d));rw[<-hR];unfold decE at hR;have st4:A0h 4 [(1,Row.cells 59 [.t (.v (.int .i64 0)),.t (.v (.string ⟨#[]⟩)),.t (.v (.int .i64 0)),.t (.v (.int .i64 0))]),(0,X)] (.ptr 1 0) (.t (.ag (ePr.enc d.p)))=some [(1,pRow d.p),(0,X)]:=rfl;have p0:A0e false 1 [(1,pRow d.p),(0,X)] (.ptr 1 0)=some (.t (iv d.p.kind)):=rfl;have p1:A0e false 1 [(1,pRow d.p),(0,X)] (.ptr 1 1)=some (.t (sv d.p.name)):=rfl;have p2:A0e false 1 [(1,pRow d.p),(0,X)] (.ptr 1 2)=some (.t (iv d.p.frm)):=rfl;have p3:A0e false 1 [(1,pRow d.p),(0,X)] (.ptr 1 3)=some (.t (iv d.p.to)):=rfl;have pa:A0e true 4 [(1,pRow d.p),(0,X)] (.ptr 1 0)=some (.t (.ag (ePr.enc d.p))):=rfl;refine B6g.call rfl ?_;(conv in A8r=>cbv);refine A0a C ?_;simp -implicitDefEqProofs [cd];rw[show Row.cells 28 [.t (sv id),.t tw,.t (iv st),.t td,.t (iv k),.t (sv nm),.t (iv f),.t (iv t),.t tk]=X from hX.symm];simp only[List.drop_zero]at ld4;refine A0a C ?_;simp -implicitDefEqProofs [z.l3,i1,ld4,st4];have hch:chkP d.p (ws.length:Int)=(if d.p.kind<0\/3<d.p.kind then 14 else if(d.p.kind=3/\d.p.name≠⟨#[]⟩)\/(d.p.kind≠3/\A0y false d.p.name=false)then 1 else if d.p.frm<0\/d.p.to<=d.p.frm\/(ws.length:Int)<d.p.to then 2 else 0):=rfl
 have he:d.p.name≠⟨#[]⟩->d.p.name.toList.isEmpty=false:=fun h4=>by
  cases h:d.p.name.toList with
  | nil=>exact absurd (toList_inj (b:=⟨#[]⟩) (by rw[h,A6m])) h4
  | cons _ _=>rfl
 have bad:∀{e:Int},chkP d.p (ws.length:Int)=e->e≠0->R=e:=fun {e} h1 h2=>by rw[h1,if_pos h2]at hR;exact hR
 by_cases h1:d.p.kind<0
 ·rw[if_pos (.inl h1)]at hch;have hR:=bad hch (by decide);refine A0a C ?_;simp -implicitDefEqProofs [p0,h1,hR]
 by_cases h2:3<d.p.kind
 ·rw[if_pos (.inr h2)]at hch;have hR:=bad hch (by decide);refine A0a C ?_;simp -implicitDefEqProofs [p0,h1,h2,hR]
 rw[if_neg (fun h=>h.elim h1 h2)]at hch;refine A0a C ?_;simp -implicitDefEqProofs [p0,h1,h2];refine A0s (α:=Unit) (fun _=>⟨[(5,.ptr 1 0),(2,.ptr 0 0),(1,.t (iv (i:Int)))],[(1,pRow d.p),(0,X)],2,70⟩) (fun _=>chkP d.p (ws.length:Int)=(if d.p.frm<0\/d.p.to<=d.p.frm\/(ws.length:Int)<d.p.to then 2 else 0)) (fun _=>rfl) ?_ ?_
 ·by_cases h3:d.p.kind=3
  ·by_cases h4:d.p.name=⟨#[]⟩
   ·rw[if_neg (fun h=>h.elim (fun h=>h.2 h4) (fun h=>h.1 h3))]at hch
    have p0:A0e false 1 [(1,pRow d.p),(0,X)] (.ptr 1 0)=some (.t (iv 3)):=by rw[p0,h3]
    have p1:A0e false 1 [(1,pRow d.p),(0,X)] (.ptr 1 1)=some (.t (sv ⟨#[]⟩)):=by rw[p1,h4]
    refine A0c C ?_;simp -implicitDefEqProofs [p0,p1,A2g];refine Abs.Next.mk () hch ?_;exact A0d (by simp -implicitDefEqProofs)
   ·rw[if_pos (.inl ⟨h3,h4⟩)]at hch;have hR:=bad hch (by decide)
    have p0:A0e false 1 [(1,pRow d.p),(0,X)] (.ptr 1 0)=some (.t (iv 3)):=by rw[p0,h3]
    have b4:d.p.name.toList.isEmpty=false:=he h4;refine A0c C ?_;simp -implicitDefEqProofs [p0,p1,b4,hR]
  ·have b3:(d.p.kind==3)=false:=by simpa using h3
   have c3:(d.p.kind != 3)=true:=by simpa using h3
   by_cases h4:d.p.name=⟨#[]⟩
   ·rw[if_pos (.inr ⟨h3,by rw[h4];exact D7n⟩)]at hch;have hR:=bad hch (by decide)
    have p1:A0e false 1 [(1,pRow d.p),(0,X)] (.ptr 1 1)=some (.t (sv ⟨#[]⟩)):=by rw[p1,h4]
    refine A0c C ?_;simp -implicitDefEqProofs [p0,p1,b3,A2g,hR]
   ·have b4:d.p.name.toList.isEmpty=false:=he h4
    cases hn:A0y false d.p.name with
    | false=>
     rw[if_pos (.inr ⟨h3,hn⟩)]at hch;have hR:=bad hch (by decide);rw[hn]at eN;refine A0c C ?_;simp -implicitDefEqProofs [p0,p1,b3,c3,b4,eN,hR]
    | true=>
     rw[if_neg (fun h=>h.elim (fun h=>h3 h.1) (fun h=>by rw[hn]at h;cases h.2))]at hch;rw[hn]at eN;refine A0c C ?_;simp -implicitDefEqProofs [p0,p1,b3,c3,b4,eN];refine Abs.Next.mk () hch ?_;exact A0d (by simp -implicitDefEqProofs)
 rintro _ hch;by_cases g1:d.p.frm<0
 ·rw[if_pos (.inl g1)]at hch;have hR:=bad hch (by decide);refine A0a C ?_;simp -implicitDefEqProofs [p2,g1,hR]
 by_cases g2:d.p.to<=d.p.frm
 ·rw[if_pos (.inr (.inl g2))]at hch;have hR:=bad hch (by decide);refine A0a C ?_;simp -implicitDefEqProofs [p2,p3,g1,g2,hR]
 by_cases g3:(ws.length:Int)<d.p.to
 ·rw[if_pos (.inr (.inr g3))]at hch;have hR:=bad hch (by decide);refine A0a C ?_;simp -implicitDefEqProofs [p2,p3,g1,g2,y.l1,lw,g3,hR]
 rw[if_neg (fun x=>x.elim g1 fun x=>x.elim g2 g3)]at hch;rw[if_neg (fun e=>e hch)]at hR;refine A0a C ?_;simp -implicitDefEqProofs [p2,p3,g1,g2,y.l1,lw,g3];refine A0s (α:=Unit) (fun _=>⟨[],[],0,70⟩) (fun _=>R=0) (fun _=>rfl) ?_ ?_
 ·refine A0a C ?_;simp -implicitDefEqProofs;refine A0g ?_;refine A0t (SDe X d.p i) (fun j=>i-j) (fun j=>j<=i/\∀y:Dc,y∈ds.take j->¬y.p=d.p) 0 (fun _=>rfl) ⟨Nat.zero_le _,by simp⟩ ?_ rfl ?_
  ·refine A0d ?_;simp -implicitDefEqProofs [SDe]
  rintro j ⟨hj,hno⟩;by_cases hlt:j<i
  ·obtain⟨y0,hy⟩:∃y,ds[j]?=some y:=⟨_,List.getElem?_eq_getElem (by omega)⟩
   obtain⟨pj,ij,_,lj,_⟩:=C5g hd hy;simp only[List.drop_zero]at lj;have eq:=G3y y0.p d.p;have w1:IntKind.i64.wrap ((j:Int)+1)=((j+1:Nat):Int):=A0j (by omega) (by omega);by_cases hyd:y0.p=d.p
   ·have hany:(ds.take i).any (fun y=>decide (y.p=d.p))=true:=List.any_eq_true.2 ⟨y0,List.mem_of_getElem? (i:=j) (by rw[List.getElem?_take,if_pos hlt];exact hy),decide_eq_true hyd⟩;rw[if_pos hany]at hR;rw[decide_eq_true hyd]at eq;refine A0c C ?_;simp -implicitDefEqProofs [SDe,hlt,y.l3,ij,lj,pa,eq,hR]
   ·rw[decide_eq_false hyd]at eq;refine A0c C ?_;simp -implicitDefEqProofs [SDe,hlt,y.l3,ij,lj,pa,eq,w1];refine Abs.Next.mk (j+1) ⟨⟨by omega,?_⟩,by omega⟩ ?_
    ·rw[List.take_add_one,hy];intro x hx;rcases List.mem_append.1 hx with hx | hx
     ·exact hno x hx
     ·rw[List.mem_singleton.1 hx];exact hyd
    ·exact A0d (by simp -implicitDefEqProofs)
  ·have hji:j=i:=by omega
   subst hji;have hany:(ds.take j).any (fun y=>decide (y.p=d.p))=false:=List.any_eq_false.2 fun x hx e=>hno x hx (of_decide_eq_true e);rw[if_neg (by rw[hany];decide)]at hR;refine A0c C ?_;simp -implicitDefEqProofs [SDe,hlt];exact Abs.Next.mk () hR (A5w (by omega) fun q hq=>by cases hq)
 rintro _ hR0;refine A0c C ?_;simp -implicitDefEqProofs [hR0]
noncomputable def gGE:List T->Option T:=g1 tIt fun c=>open Classical in if SmI c.x then some (iv (chkG c.x))else none
theorem hGE:GOK Tryz.prog (G q) 110 gGE:=A4c fun a c r ha hr=>by
 split at hr
 ·rename_i h;injection hr with hr;subst hr;have ha:a = .ag c.cs:=ha;subst ha;exact E5j c.ok h.words.1 h.gold
 ·cases hr
theorem G4d (c:IC) (h:SmI c.x):gGE [.ag c.cs]=some (iv (chkG c.x)):=by
 show g1 _ _ _=_;rw[A5l (τ:=tIt) (x:=c) rfl,if_pos h]
def SRs (X:Row) (j:Nat):A0b:=⟨[(4,.t (iv (j:Int))),(1,.ptr 0 0)],[(0,X)],1,38⟩
theorem F1g (c:IC) (hs:SmI c.x):A0v Tryz.prog (G q) 62 [.ag c.cs] (· = iv (chkR c.x)):=by
 have eG:=G4d c hs;obtain⟨tw,td,k,nm,f,t,tk,ks,ecs,hg,hk,hw,hd,hgD⟩:=A1g c.ok;have eD:∀{i:Nat} {d:Dc},c.x.decs[i]?=some d->A0v Tryz.prog (G q) 109 [.ag c.cs,iv (i:Int)] (· = iv (decE c.x.words.length c.x.decs i d)):=fun h=>F1f c.ok hs h;have hW:=hs.words;have hdl:=hs.len;have ok:=c.ok;have hR0:chkR c.x=(if chkW c.x.words≠0 then chkW c.x.words else if c.x.state<0\/2<c.x.state then 14 else if 256<c.x.decs.length then 7 else if A8w c.x.words.length [] c.x.decs≠0 then A8w c.x.words.length [] c.x.decs else chkG c.x):=rfl
 obtain⟨R,hRR⟩:∃R,R=chkR c.x:=⟨_,rfl⟩
 rw[<-hRR];rw[<-hRR]at hR0
 obtain⟨Gx,hGx⟩:∃Gx,Gx=chkG c.x:=⟨_,rfl⟩
 rw[<-hGx]at hR0 eG;rw[ecs]at eG ⊢;simp only[ecs]at eD;generalize c.x.id=id at *;generalize c.x.state=st at *
 obtain⟨ws,hws⟩:∃ws,ws=c.x.words:=⟨_,rfl⟩
 obtain⟨ds,hds⟩:∃ds,ds=c.x.decs:=⟨_,rfl⟩
 simp only[<-hws,<-hds]at hw hd hW hdl hR0 eD;have cd:=B1m id tw st td k nm f t tk;have ldd:=hd.len;have eT:=F0z hw hW
 obtain⟨X,hX⟩:∃X,X=iRow id tw st td k nm f t tk:=⟨_,rfl⟩
 have hXc:∃(ty:Nat) (cs:List T),X = .cells ty (cs.map .t):=⟨_,[sv id,tw,iv st,td,iv k,sv nm,iv f,iv t,tk],hX⟩
 have z:=ldI id tw st td k nm f t tk (H:=[(0,X)]) (b:=0) (by rw[hX];rfl);have C:Ctx Tryz.prog (G q) _:=(A0x.cons (hRTok (q:=q)) (.cons (hGE (q:=q)) .nil)).ctx mixed;refine E5d.call rfl ?_;(conv in C7r=>cbv);refine A0a C ?_;simp -implicitDefEqProofs [cd];rw[show Row.cells 28 [.t (sv id),.t tw,.t (iv st),.t td,.t (iv k),.t (sv nm),.t (iv f),.t (iv t),.t tk]=X from hX.symm];refine A0a C ?_;simp -implicitDefEqProofs [z.l1,eT];by_cases h1:chkW ws=0
 rotate_left
 ·rw[if_pos h1]at hR0
  have hb:(R != 0)=true:=by rw[hR0];simpa using h1
  refine A0a C ?_;simp -implicitDefEqProofs [<-hR0,hb]
 rw[if_neg (fun e=>e h1)]at hR0;refine A0a C ?_;simp -implicitDefEqProofs [h1];by_cases h2:st<0
 ·rw[if_pos (.inl h2)]at hR0;refine A0a C ?_;simp -implicitDefEqProofs [z.l2,h2,hR0]
 by_cases h3:2<st
 ·rw[if_pos (.inr h3)]at hR0;refine A0a C ?_;simp -implicitDefEqProofs [z.l2,h2,h3,hR0]
 rw[if_neg (fun e=>e.elim h2 h3)]at hR0;refine A0a C ?_;simp -implicitDefEqProofs [z.l2,h2,h3];by_cases h4:256<ds.length
 ·rw[if_pos h4]at hR0
  have hc:decide ((256:Int)<(ds.length:Int))=true:=by simpa using (by omega:(256:Int)<(ds.length:Int))
  refine A0a C ?_;simp -implicitDefEqProofs [z.l3,ldd,hc,hR0]
 rw[if_neg h4]at hR0
 have hc:decide ((256:Int)<(ds.length:Int))=false:=by simpa using (by omega:(ds.length:Int)<=256)
 refine A0a C ?_;simp -implicitDefEqProofs [z.l3,ldd,hc];refine A0s (α:=Unit) (fun _=>⟨[(1,.ptr 0 0)],[(0,X)],1,38⟩) (fun _=>R=Gx) (fun _=>rfl) ?_ ?_
 ·refine A0a C ?_;simp -implicitDefEqProofs;refine A0g ?_;refine A0t (SRs X) (fun j=>ds.length-j) (fun j=>j<=ds.length/\(if A8w ws.length (ds.take j) (ds.drop j)≠0 then A8w ws.length (ds.take j) (ds.drop j)else Gx)=R) 0 (fun _=>rfl) ⟨Nat.zero_le _,hR0.symm⟩ ?_ rfl ?_
  ·refine A0d ?_;simp -implicitDefEqProofs [SRs]
  rintro j ⟨hj,heq⟩;by_cases hlt:j<ds.length
  ·obtain⟨d,hdx⟩:∃d,ds[j]?=some d:=⟨_,List.getElem?_eq_getElem hlt⟩
   obtain⟨t1,o1,ok1⟩:=G4c (eD hdx);have C1:Ctx Tryz.prog (G q) _:=(A0x.cons ok1 .nil).ctx mixed;have e1:IntKind.i64.wrap ((j:Int)+1)=((j+1:Nat):Int):=A0j (by omega) (by omega);have hck:=F5x (n:=(ws.length:Int)) hdx;refine A0c C1 ?_;by_cases g1:decE ws.length ds j d=0
   ·rw[if_neg (fun e=>e g1)]at hck;rw[hck]at heq;rw[g1]at o1;simp -implicitDefEqProofs [SRs,z.l3,ldd,hlt,z.a,o1,e1];refine Abs.Next.mk (j+1) ⟨⟨by omega,by simpa using heq⟩,by omega⟩ ?_;exact A0d (by simp -implicitDefEqProofs)
   ·rw[if_pos g1]at hck;rw[hck,if_pos g1]at heq
    have hb:(R != 0)=true:=by rw[<-heq];simpa using g1
    rw[heq]at o1;simp -implicitDefEqProofs [SRs,z.l3,ldd,hlt,z.a,o1,hb]
  ·rw[List.drop_of_length_le (by omega),A8w,if_neg (fun e=>e rfl)]at heq;refine A0c C ?_;simp -implicitDefEqProofs [SRs,z.l3,ldd,hlt];exact Abs.Next.mk () heq.symm (A0d (by simp -implicitDefEqProofs))
 rintro _ hRG;refine A0c C ?_;simp -implicitDefEqProofs [z.a,eG,hRG]
noncomputable def gRst:List T->Option T:=g1 tIt fun c=>open Classical in if SmI c.x then some (iv (chkR c.x))else none
theorem hRst:GOK Tryz.prog (G q) 62 gRst:=A4c fun a c r ha hr=>by
 split at hr
 ·rename_i h;injection hr with hr;subst hr;have ha:a = .ag c.cs:=ha;subst ha;exact F1g c h
 ·cases hr
theorem F1h (c:IC) (h:SmI c.x):gRst [.ag c.cs]=some (iv (chkR c.x)):=by
 show g1 _ _ _=_;rw[A5l (τ:=tIt) (x:=c) rfl,if_pos h]
def SCr (X:Row) (j:Nat):A0b:=⟨[(3,.t (iv (j:Int))),(1,.ptr 0 0)],[(0,X)],1,55⟩
theorem D7o {ver:ByteArray} {u:T} {l:List IC} (hu:IsS eIC u l) (hs:SmB ver l):A0v Tryz.prog (G q) 27 [.ag [sv ver,u]] (· = iv (chkT ⟨ver,l.map IC.x⟩)):=by
 have cd:A0q (.t (.ag [sv ver,u]))=some [.t (sv ver),.t u]:=rfl;have lu:=hu.len;have eV:=B4v hs.ver;have hll:=hs.len
 obtain⟨X,hX⟩:∃X,X=bRow ver u:=⟨_,rfl⟩
 have hXc:∃(ty:Nat) (cs:List T),X = .cells ty (cs.map .t):=⟨_,[sv ver,u],hX⟩
 have L0:∀R:Heap,LdB ver u ((0,X)::R) 0:=fun R=>ldB (by rw[hX];rfl);have L1:∀(Y:Row) (R:Heap),LdB ver u ((1,Y)::(0,X)::R) 0:=fun Y R=>ldB (by rw[hX];rfl);have C:Ctx Tryz.prog (G q) _:=(A0x.cons (hRNm (q:=q)) (.cons (hRst (q:=q)) .nil)).ctx mixed;refine D7l.call rfl ?_;(conv in C3s=>cbv)
 obtain⟨R,hR⟩:∃R,R=chkT ⟨ver,l.map IC.x⟩:=⟨_,rfl⟩
 rw[<-hR];rw[chkT]at hR;simp only[List.length_map]at hR;have z:=L0 [];refine A0a C ?_;simp -implicitDefEqProofs [cd];rw[show Row.cells 39 [.t (sv ver),.t u]=X from hX.symm]
 cases h1:A0y false ver with
 | false=>
  rw[if_pos h1]at hR;rw[h1]at eV;refine A0a C ?_;simp -implicitDefEqProofs [z.l0,eV,hR]
 | true=>
 rw[if_neg (by rw[h1];decide)]at hR;rw[h1]at eV;refine A0a C ?_;simp -implicitDefEqProofs [z.l0,eV];by_cases h4:256<l.length
 ·rw[if_pos h4]at hR
  have hc:decide ((256:Int)<(l.length:Int))=true:=by simpa using (by omega:(256:Int)<(l.length:Int))
  refine A0a C ?_;simp -implicitDefEqProofs [z.l1,lu,hc,hR]
 rw[if_neg h4]at hR
 have hc:decide ((256:Int)<(l.length:Int))=false:=by simpa using (by omega:(l.length:Int)<=256)
 refine A0a C ?_;simp -implicitDefEqProofs [z.l1,lu,hc];refine A0s (α:=Unit) (fun _=>⟨[(1,.ptr 0 0)],[(0,X)],1,55⟩) (fun _=>R=0) (fun _=>rfl) ?_ ?_
 ·refine A0a C ?_;simp -implicitDefEqProofs;refine A0g ?_;refine A0t (SCr X) (fun j=>l.length-j) (fun j=>j<=l.length/\R=chkL (A7n l j) ((l.map IC.x).drop j)) 0 (fun _=>rfl) ⟨Nat.zero_le _,hR⟩ ?_ rfl ?_
  ·refine A0d ?_;simp -implicitDefEqProofs [SCr]
  rintro j ⟨hj,heq⟩;by_cases hlt:j<l.length
  ·obtain⟨c,hc⟩:∃c,l[j]?=some c:=⟨_,List.getElem?_eq_getElem hlt⟩
   obtain⟨pp,i1,ld9,ldn⟩:=B3h hu hc;have hsc:=hs.items c (List.mem_of_getElem? hc);have eI:=F1h c hsc;have eN:=B4v hsc.id
   have hd:(l.map IC.x).drop j=c.x::(l.map IC.x).drop (j+1):=by
    rw[List.drop_eq_getElem_cons (by simpa using hlt),List.getElem_map,(List.getElem?_eq_some_iff.1 hc).2]
   have hpn:A7n l (j+1)=some c.x.id:=by simp[A7n,hc]
   rw[hd,chkL,<-hpn]at heq;have e1:IntKind.i64.wrap ((j:Int)+1)=((j+1:Nat):Int):=A0j (by omega) (by omega);refine A1p ?_;refine A0c C ?_;simp -implicitDefEqProofs [SCr,z.l1,lu,hlt];refine⟨rfl,?_⟩;refine A1p ?_;refine A0g ?_
   cases g1:A0y false c.x.id with
   | false=>
    rw[if_pos g1]at heq;rw[g1]at eN;refine A0a C ?_;simp -implicitDefEqProofs [z.l1,i1,ldn,eN,heq,A5u]
   | true=>
   rw[if_neg (by rw[g1];decide)]at heq;rw[g1]at eN;refine A0a C ?_;simp -implicitDefEqProofs [z.l1,i1,ldn,eN];refine A0s (α:=Unit) (fun _=>⟨[(3,.t (iv (j:Int))),(1,.ptr 0 0)],[(0,X)],1,55⟩) (fun _=>C0k (A7n l j) c.x.id=false) (fun _=>rfl) ?_ ?_
   ·by_cases h0:j=0
    ·have hl:C0k (A7n l j) c.x.id=false:=by rw[h0];rfl
     have b1:decide (0<j)=false:=by simpa using h0
     refine A0c C ?_;simp -implicitDefEqProofs [b1];refine Abs.Next.mk () hl ?_;exact A0d (by simp -implicitDefEqProofs)
    ·have hj1:j-1<l.length:=by omega
     obtain⟨c0,hc0⟩:∃c,l[j-1]?=some c:=⟨_,List.getElem?_eq_getElem hj1⟩
     obtain⟨pp0,i0,_,ldid⟩:=B3h hu hc0
     have hp:A7n l j=some c0.x.id:=by
      obtain⟨j',rfl⟩:∃j',j=j'+1:=⟨j-1,by omega⟩
      simp at hc0;simp[A7n,hc0]
     have b0:0<j:=by omega
     have e0:IntKind.i64.wrap ((j:Int)-1)=((j-1:Nat):Int):=by rw[show(j:Int)-1=((j-1:Nat):Int)by omega];exact A0j rfl (by omega)
     have hless:=C3v c0.x.id c.x.id;rw[<-hp]at hless
     cases hl:C0k (A7n l j) c.x.id with
     | true=>
      rw[hl]at hless;rw[if_pos hl]at heq;refine A0c C ?_;simp -implicitDefEqProofs [b0,z.l1,i1,ldn,e0,i0,ldid,hless,heq,A5u]
     | false=>
      rw[hl]at hless;refine A0c C ?_;simp -implicitDefEqProofs [b0,z.l1,i1,ldn,e0,i0,ldid,hless];refine Abs.Next.mk () (by simp[hl]) ?_;exact A0d (by simp -implicitDefEqProofs)
   rintro _ hl;rw[if_neg (by rw[hl];decide)]at heq;by_cases g2:chkR c.x=0
   ·rw[if_neg (fun e=>e g2)]at heq;rw[g2]at eI;refine A0c C ?_;simp -implicitDefEqProofs [z.l1,i1,ld9,eI];refine⟨rfl,?_⟩;refine A0c C ?_;simp -implicitDefEqProofs only[runsM_ops,runsL_cons,runsL_nil];simp -implicitDefEqProofs [e1];refine Abs.Next.mk (j+1) ⟨⟨by omega,heq⟩,by omega⟩ ?_;exact A0d (by simp -implicitDefEqProofs [SCr])
   ·rw[if_pos g2]at heq
    have hb:(R != 0)=true:=by rw[heq];simpa using g2
    refine A0c C ?_;simp -implicitDefEqProofs [z.l1,i1,ld9,eI,<-heq,hb,A5u]
  ·rw[List.drop_of_length_le (by simp;omega),chkL]at heq;refine A0c C ?_;simp -implicitDefEqProofs [SCr,z.l1,lu,hlt];exact Abs.Next.mk () heq (A0d (by simp -implicitDefEqProofs))
 rintro _ hRG;refine A0c C ?_;simp -implicitDefEqProofs [hRG]
theorem D7p:GOK Tryz.prog (G q) 27 gChk:=A4c fun a b r ha hr=>by
 split at hr
 ·rename_i h;injection hr with hr;subst hr;obtain⟨u,rfl,hu⟩:=ha;exact D7o hu h
 ·cases hr
def gEx:List T->Option T
 | []=>some (bv true)
 | _=>none
theorem SmI.e {x:It} (h:SmI x):SmE x:=⟨h.words.1,h.len,h.gold.2.2⟩
end Go.Proofs.YtmplckgbeaifkaaGreatDoor
namespace Go.Abs
open Go
def G4e (H:Heap) (F:List Nat):List Nat:=F.filter fun b=>match look H b with
 | some (.cells _ cs)=>(allT cs).isSome
 | _=>false
def frzR:Nat->A0b->A0b
 | 0,s=>s
 | k+1,s=>match G4e s.H (G0b s.H)with
  | []=>s
  | F=>frzR k (s.frz F)
def F1i (tab:List (Nat×FnM)) (rounds:Nat) (Φ:A0n) (f:FuncId) (args:List T):Option T:=
 match look tab f with
 | some fm=>if args.length=fm.k then
   (match runF Φ rounds fm.M (startM fm.N args)with
   | some (.ret,s)=>resT fm.vs (frzR 4 s)
   | _=>none)
  else none
 | none=>none
def C7v (tab:List (Nat×FnM)) (memo:Memo) (rounds:Nat):Nat->A0n
 | 0=>⟨memo.get,fun _ _ _ _=>none⟩
 | n+1=>⟨fun f args=>match memo.get f args with
   | some r=>some r
   | none=>F1i tab rounds (C7v tab memo rounds n) f args,E9v tab rounds (C7v tab memo rounds n)⟩
section
variable {P : Program} {G : A0w} {B : Nat} {Φ : A0n}
theorem C0y:∀(k:Nat) (s:A0b),Sub P G B s (frzR k s)
 | 0,s=>Sub.refl s
 | k+1,s=>by
  unfold frzR;split
  ·exact Sub.refl s
  ·exact(C8p _).trans (C0y k _)
theorem D4e (hm:P.follows .mixedOrders=true) {tab:List (Nat×FnM)} (ht:G0c P G tab) (rounds:Nat) (hΦ:Φ.Sound P G) (f:FuncId) (args:List T) (r:T) (h:F1i tab rounds Φ f args=some r):A0v P G f args (· = r):=by
 unfold F1i at h;split at h
 ·rename_i fm hf;split at h
  ·rename_i hk;split at h
   ·rename_i s hr;unfold resT at h;split at h
    ·rename_i ps hps;split at h
     ·rename_i r' F hT;injection h with h;subst h;refine(ht _ (A0p hf)).call hk fun c hc hn=>?_
      exact(A4i (Q:=fun e s1=>e = .ret/\s1=s) ⟨hm,hΦ⟩ rounds fm.M hr ⟨rfl,rfl⟩ c hc hn).post fun e s1 hq=>⟨frzR 4 s1,C0y 4 s1,by
       obtain⟨rfl,rfl⟩:=hq
       exact⟨.inr rfl,ps,r',F,hps,hT,rfl⟩⟩
     ·cases h
    ·cases h
   ·cases h
  ·cases h
 ·cases h
theorem A9l (hm:P.follows .mixedOrders=true) {tab:List (Nat×FnM)} (ht:G0c P G tab) {memo:Memo} (hme:B7o P G memo) (rounds:Nat):∀n,(C7v tab memo rounds n).Sound P G
 | 0=>⟨fun _ _ _ h=>Memo.get_sound hme h,fun _ _ _ _ _ _ _ h=>(by cases h),fun _ _ _ _ _ _ _ h=>(by cases h)⟩
 | n+1=>⟨fun f args r h=>by
   simp only[C7v]at h;split at h
   ·rename_i r' hr;injection h with h;subst h;exact Memo.get_sound hme hr
   ·exact D4e hm ht rounds (A9l hm ht hme rounds n) f args r h,
   fun f ps H nx r H' nx' h=>(C0b hm ht rounds (A9l hm ht hme rounds n) f ps H nx r H' nx' h).1,
   fun f ps H nx r H' nx' h _=>(C0b hm ht rounds (A9l hm ht hme rounds n) f ps H nx r H' nx' h).2⟩
end
end Go.Abs
