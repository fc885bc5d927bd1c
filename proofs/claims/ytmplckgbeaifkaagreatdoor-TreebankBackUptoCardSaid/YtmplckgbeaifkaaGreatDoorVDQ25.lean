/- Auxiliary facts. -/
import Derived.Test.YtmplckgbeaifkaaGreatDoorVDQ24
set_option linter.unusedSimpArgs false
set_option maxRecDepth 100000
set_option maxHeartbeats 0
set_option linter.unusedVariables false
namespace Go.Proofs.YtmplckgbeaifkaaGreatDoor
open Go Go.Abs
variable {q : Gl}
def allW (ws:List ByteArray):Int:=if ws.all A4q then 0 else 1
def A4a (t:T) (n j:Nat):A0b:=⟨[(13,.t (iv (j:Int))),(12,.t (iv (n:Int))),(11,.t t)],[],0,21⟩
theorem B7u {t:T} {ws:List ByteArray} (ht:IsS eStr t ws) (hw:∀w∈ws,w.size<=lim) (hl:ws.length<=2000000):A0z Tryz.prog (G q) 119 [t] (· = iv (chkW ws)):=by
 have C:Ctx Tryz.prog (G q) _:=(A0x.cons (hWd (q:=q)) .nil).ctx mixed;have l1:=ht.len;refine C5r.call rfl ?_;(conv in B5g=>cbv)
 obtain⟨R,hR⟩:∃R,R=chkW ws:=⟨_,rfl⟩
 rw[<-hR];rw[chkW]at hR;refine A0a C ?_;simp -implicitDefEqProofs
 by_cases h0:ws=[]
 ·rw[if_pos h0]at hR;subst h0;have hb:((([]:List ByteArray).length:Int)==0)=true:=rfl;refine A0a C ?_;simp -implicitDefEqProofs [l1,hb,hR]
 rw[if_neg h0]at hR
 have hb:((ws.length:Int)==0)=false:=by
  have:ws.length≠0:=fun e=>h0 (List.eq_nil_of_length_eq_zero e);simpa using this
 refine A0a C ?_;simp -implicitDefEqProofs [l1,hb,h0];by_cases h32:32<ws.length
 ·rw[if_pos h32]at hR
  have hc:decide ((32:Int)<(ws.length:Int))=true:=by simpa using (by omega:(32:Int)<(ws.length:Int))
  refine A0a C ?_;simp -implicitDefEqProofs [l1,hc,hR]
 rw[if_neg h32]at hR
 have hc:decide ((32:Int)<(ws.length:Int))=false:=by simpa using (by omega:(ws.length:Int)<=32)
 refine A0a C ?_;simp -implicitDefEqProofs [l1,hc];refine A1f (α:=Unit) (fun _=>⟨[],[],0,21⟩) (fun _=>R=0) (fun _=>rfl) ?_ ?_
 ·refine A0a C ?_;simp -implicitDefEqProofs [l1];refine A0n ?_;refine A1a (A4a t ws.length) (fun j=>ws.length-j) (fun j=>j<=ws.length/\allW (ws.drop j)=R) 0 (fun _=>rfl) ⟨Nat.zero_le _,by simp[hR,allW]⟩ ?_ rfl ?_
  ·refine A0e ?_;simp -implicitDefEqProofs [A4a]
  rintro j ⟨hj,heq⟩;refine A0c C ?_;by_cases hlt:j<ws.length
  ·obtain⟨x,hx⟩:∃x,ws[j]?=some x:=⟨_,List.getElem?_eq_getElem hlt⟩
   have i1:A1c 1 (.t t) (.t (iv (j:Int)))=some (.t (.pt (sv x::rest eStr ws j))):=ht.iaddr hx .i64;have ld:∀H,A0f false 1 H (.t (.pt (sv x::rest eStr ws j)))=some (.t (sv x)):=fun _=>rfl;have eW:=F4k (hw x (List.mem_of_getElem? hx));have e1:IntKind.i64.wrap ((j:Int)+1)=((j+1:Nat):Int):=A0p (by omega) (by omega);rw[List.drop_eq_getElem_cons hlt,(List.getElem?_eq_some_iff.1 hx).2,allW,List.all_cons]at heq
   cases hxw:A4q x with
   | true=>
    rw[hxw,Bool.true_and]at heq;rw[hxw]at eW;simp -implicitDefEqProofs [A4a,l1,hlt,i1,ld,eW,e1];exact Abs.Next.mk (j+1) ⟨⟨by omega,heq⟩,by omega⟩ (A0e (by simp -implicitDefEqProofs [A4a]))
   | false=>
    rw[hxw,Bool.false_and,if_neg (by simp)]at heq;rw[hxw]at eW;simp -implicitDefEqProofs [A4a,l1,hlt,i1,ld,eW,<-heq]
  ·rw[List.drop_of_length_le (by omega)]at heq;simp -implicitDefEqProofs [A4a,l1,hlt];exact Abs.Next.mk () (by simpa[allW]using heq.symm) (A0e (by simp -implicitDefEqProofs))
 ·rintro _ h0;refine A0c C ?_;simp -implicitDefEqProofs [h0]
def SmW (ws:List ByteArray):Prop:=ws.length<=2000000/\∀w∈ws,w.size<=lim
noncomputable def gTok:List T->Option T:=g1 (tSl eStr) fun ws=>open Classical in if SmW ws then some (iv (chkW ws))else none
theorem hTok:GOK Tryz.prog (G q) 119 gTok:=A7r fun a x r ha hr=>by
 split at hr
 ·rename_i h;injection hr with hr;subst hr;exact B7u ha h.2 h.1
 ·cases hr
theorem F2l {t:T} {ws:List ByteArray} (ht:IsS eStr t ws) (h:SmW ws):gTok [t]=some (iv (chkW ws)):=by
 show g1 _ _ _=_;rw[A7s (τ:=tSl eStr) ht,if_pos h]
theorem C5s (p:Pr) (m:Int) (hs:p.name.size<=lim):A0z Tryz.prog (G q) 120 [.ag (ePr.enc p),iv m] (· = iv (chkP p m)):=by
 obtain⟨k,n,f,t⟩:=p;have cd:=F2i ⟨k,n,f,t⟩;have eN:=C3d hs;simp only at eN;refine B3s.runs ((A0x.cons (hNm (q:=q)) .nil).ctx mixed) rfl ?_
 obtain⟨R,hR⟩:∃R,R=chkP ⟨k,n,f,t⟩ m:=⟨_,rfl⟩
 rw[<-hR];simp only[chkP]at hR;by_cases h1:k<0
 ·rw[if_pos (.inl h1)]at hR
  (conv in A0t=>cbv);simp -implicitDefEqProofs [cd,A0f,h1,hR]
 by_cases h2:3<k
 ·rw[if_pos (.inr h2)]at hR
  (conv in A0t=>cbv);simp -implicitDefEqProofs [cd,A0f,h1,h2,hR]
 rw[if_neg (fun h=>h.elim h1 h2)]at hR
 have last:∀(R:Int),R=(if f<0\/t<=f\/m<t then 2 else 0)->(f<0/\R=2)\/(¬f<0/\t<=f/\R=2)\/(¬f<0/\¬t<=f/\m<t/\R=2)\/(¬f<0/\¬t<=f/\¬m<t/\R=0):=fun R h=>by
  by_cases g1:f<0
  ·exact .inl ⟨g1,by rw[h,if_pos (.inl g1)]⟩
  ·by_cases g2:t<=f
   ·exact .inr (.inl ⟨g1,g2,by rw[h,if_pos (.inr (.inl g2))]⟩)
   ·by_cases g3:m<t
    ·exact .inr (.inr (.inl ⟨g1,g2,g3,by rw[h,if_pos (.inr (.inr g3))]⟩))
    ·exact .inr (.inr (.inr ⟨g1,g2,g3,by rw[h,if_neg (fun x=>x.elim g1 fun x=>x.elim g2 g3)]⟩))
 by_cases h3:k=3
 ·by_cases h4:n=⟨#[]⟩
  ·rw[if_neg (fun h=>h.elim (fun h=>h.2 h4) (fun h=>h.1 h3))]at hR;subst h3;subst h4;rcases last R hR with⟨g1,hr⟩ | ⟨g1,g2,hr⟩ | ⟨g1,g2,g3,hr⟩ | ⟨g1,g2,g3,hr⟩
   ·(conv in A0t=>cbv);simp -implicitDefEqProofs [cd,A0f,A2w,g1,hr]
   ·(conv in A0t=>cbv);simp -implicitDefEqProofs [cd,A0f,A2w,g1,g2,hr]
   ·(conv in A0t=>cbv);simp -implicitDefEqProofs [cd,A0f,A2w,g1,g2,g3,hr]
   ·(conv in A0t=>cbv);simp -implicitDefEqProofs [cd,A0f,A2w,g1,g2,g3,hr]
  ·rw[if_pos (.inl ⟨h3,h4⟩)]at hR;subst h3
   have he:n.toList.isEmpty=false:=by
    cases h:n.toList with
    | nil=>exact absurd (toList_inj (b:=⟨#[]⟩) (by rw[h,A6p])) h4
    | cons _ _=>rfl
   (conv in A0t=>cbv);simp -implicitDefEqProofs [cd,A0f,he,hR]
 ·have b3:(k==3)=false:=by simpa using h3
  have c3:(k != 3)=true:=by simpa using h3
  cases hn:A0v false n with
  | false=>
   rw[if_pos (.inr ⟨h3,hn⟩)]at hR;rw[hn]at eN
   (conv in A0t=>cbv);simp -implicitDefEqProofs [cd,A0f,h1,h2,b3,c3,eN,hR]
  | true=>
   rw[if_neg (fun h=>h.elim (fun h=>h3 h.1) (fun h=>by rw[hn]at h;cases h.2))]at hR;rw[hn]at eN;rcases last R hR with⟨g1,hr⟩ | ⟨g1,g2,hr⟩ | ⟨g1,g2,g3,hr⟩ | ⟨g1,g2,g3,hr⟩
   ·(conv in A0t=>cbv);simp -implicitDefEqProofs [cd,A0f,h1,h2,b3,c3,eN,g1,hr]
   ·(conv in A0t=>cbv);simp -implicitDefEqProofs [cd,A0f,h1,h2,b3,c3,eN,g1,g2,hr]
   ·(conv in A0t=>cbv);simp -implicitDefEqProofs [cd,A0f,h1,h2,b3,c3,eN,g1,g2,g3,hr]
   ·(conv in A0t=>cbv);simp -implicitDefEqProofs [cd,A0f,h1,h2,b3,c3,eN,g1,g2,g3,hr]
noncomputable def gDcn:List T->Option T:=g2 (tAg ePr) tInt fun p m=>if p.name.size<=lim then some (iv (chkP p m))else none
theorem hDcn:GOK Tryz.prog (G q) 120 gDcn:=A7t fun a b p m r ha hb hr=>by
 obtain rfl:a = .ag (ePr.enc p):=ha;obtain rfl:b=iv m:=hb;split at hr
 ·rename_i h;injection hr with hr;subst hr;exact C5s p m h
 ·cases hr
theorem F2m (p:Pr) (m:Int) (h:p.name.size<=lim):gDcn [.ag (ePr.enc p),iv m]=some (iv (chkP p m)):=by
 show g2 _ _ _ _=_;rw[A7c (τ:=tAg ePr) (σ:=tInt) rfl rfl,if_pos h]
mutual
theorem E3n:∀d:Dv,nodD d<=(prtD d).length
 | .mk k n f t ks=>by
  have:=D5f ks;rw[nodD,prtD];simp only[List.length_cons,List.length_append];omega
theorem D5f:∀l:List Dv,nodK l<=(prtK l).length
 | []=>by simp[nodK,prtK]
 | d::r=>by
  have h1:=E3n d;have h2:=D5f r;rw[nodK,prtK];simp only[List.length_cons,List.length_append];omega
end
theorem E7w {s:List UInt8} {d:Dv} (h:parD s = .ok d):nodD d<=65536:=by
 have h1:=D0z h;have h2:=E3n d;rw[h1]at h2;unfold parD at h;split at h
 ·cases h
 ·omega
theorem D1x {s:List UInt8} {e:Int} (h:parD s = .error e):e≠0:=by
 unfold parD at h;split at h
 ·injection h with h;omega
 ·have hr:=C8r 64 s;split at h
  ·rename_i e' he;rw[he]at hr;injection h with h;subst h;exact hr.2.2
  ·cases h
  ·injection h with h;omega
theorem D1y {c:List T} {d:Dv} (h:Abs.IsD d c) (hw:Wd d):A0z Tryz.prog (G q) 122 [.ag c] (· = bv (C4w d)):=by
 have e1:=D5b h hw;have e2:=D5c (bs (prtD d));have e2:F2g [sv (bs (prtD d))]=some (parT (prtD d)):=e2;have hn:nodD d<=1000000:=hw.2.2
 have hsp:C4w d=(match parD (prtD d)with | .ok x=>decide (cmpD x d=0) | .error _=>false):=by
  unfold C4w;cases parD (prtD d)<;>rfl
 have h0:=h
 cases d with
 | mk k nm f t ks=>
 obtain⟨tk,rfl,hk⟩:=h.parts;have cd:=A9o k nm f t tk;have C:Ctx Tryz.prog (G q) _:=(A0x.cons (F5i (q:=q)) (.cons (F5j (q:=q)) (.cons (F4j (q:=q)) .nil))).ctx mixed
 obtain⟨H1,hH1⟩:∃H1:Heap,H1=[(0,.cells 26 [.t (iv k),.t (sv nm),.t (iv f),.t (iv t),.t tk])]:=⟨_,rfl⟩
 have ld:A0f true 5 H1 (.ptr 0 0)=some (.t (.ag [iv k,sv nm,iv f,iv t,tk])):=by rw[hH1];rfl
 obtain⟨P,hP⟩:∃P,P=prtD (.mk k nm f t ks):=⟨_,rfl⟩
 rw[<-hP]at e1 e2 hsp;rw[hsp];refine B6l.runs C rfl ?_
 cases hpar:parD P with
 | error e=>
  have he:=D1x hpar
  have hb:(e==0)=false:=by simpa using he
  have ep:parT P = .tu [.ag (encD A1y),iv e]:=by unfold parT;rw[hpar]
  rw[ep]at e2;have st:A0r 5 (zD5 1::H1) (.ptr 1 0) (.t (.ag (encD A1y)))=some ((1,.cells 26 ((encD A1y).map .t))::H1):=C0b 1 H1 A1y (IsD.enc A1y)
  (conv in A5n=>cbv);simp -implicitDefEqProofs [cd,<-hH1,ld,e1,e2,st,hb]
 | ok x=>
  have hx:=E7w hpar
  have ep:parT P = .tu [.ag (encD x),iv 0]:=by unfold parT;rw[hpar]
  rw[ep]at e2
  obtain⟨H2,hH2⟩:∃H2:Heap,H2=(1,.cells 26 ((encD x).map .t))::H1:=⟨_,rfl⟩
  have st:A0r 5 (zD5 1::H1) (.ptr 1 0) (.t (.ag (encD x)))=some H2:=by rw[hH2];exact C0b 1 H1 x (IsD.enc x)
  have ld2:A0f true 5 H2 (.ptr 1 0)=some (.t (.ag (encD x))):=by rw[hH2];exact C5g 1 H1 x (IsD.enc x)
  have ld3:A0f true 5 H2 (.ptr 0 0)=some (.t (.ag [iv k,sv nm,iv f,iv t,tk])):=by rw[hH2,hH1];rfl
  have eC:=E2b (IsD.enc x) h0 (by omega) hn
  have hcd:(cmpD x (.mk k nm f t ks)==0)=decide (cmpD x (.mk k nm f t ks)=0):=by
   rw[Bool.eq_iff_iff];simp
  (conv in A5n=>cbv);simp -implicitDefEqProofs [cd,<-hH1,ld,e1,e2,st,ld2,ld3,eC,hcd]
noncomputable def gPsd:List T->Option T:=g1 tD fun d=>open Classical in if Wd d then some (bv (C4w d))else none
theorem hPsd:GOK Tryz.prog (G q) 122 gPsd:=A7r fun a d r ha hr=>by
 split at hr
 ·rename_i h;injection hr with hr;subst hr;obtain⟨c,rfl,hc⟩:=ha;exact D1y hc h
 ·cases hr
theorem F2n {c:List T} {d:Dv} (h:Abs.IsD d c) (hw:Wd d):gPsd [.ag c]=some (bv (C4w d)):=by
 show g1 _ _ _=_;rw[A7s (τ:=tD) (x:=d) ⟨c,rfl,h⟩,if_pos hw]
structure SmI (x:It):Prop where
 words:SmW x.words
 len:x.decs.length<=1000000
 decs:∀d∈x.decs,d.p.name.size<=lim
 gold:Wd x.gold
 id:x.id.size<=lim
def iRow (id:ByteArray) (tw:T) (st:Int) (td:T) (k:Int) (nm:ByteArray) (f t:Int) (tk:T):Row:=.cells 28 [.t (sv id),.t tw,.t (iv st),.t td,.t (iv k),.t (sv nm),.t (iv f),.t (iv t),.t tk]
theorem A3f {x:It} {cs:List T} (h:IsIt x cs):∃tw td k nm f t tk ks,cs=[sv x.id,tw,iv x.state,td,iv k,sv nm,iv f,iv t,tk]/\x.gold = .mk k nm f t ks/\IsK tk ks/\IsS eStr tw x.words/\IsS eDc td x.decs/\Abs.IsD x.gold [iv k,sv nm,iv f,iv t,tk]:=by
 obtain⟨tw,td,g,e,h1,h2,h3⟩:=h
 cases hg:x.gold with
 | mk k nm f t ks=>
  rw[hg]at h3;have h4:=h3;obtain⟨tk,rfl,hk⟩:=h3.parts;exact⟨tw,td,k,nm,f,t,tk,ks,e,rfl,hk,h1,h2,h4⟩
section
variable (id : ByteArray) (tw : T) (st : Int) (td : T) (k : Int) (nm : ByteArray) (f t : Int) (tk : T)
theorem C5t:A0y (.t (.ag [sv id,tw,iv st,td,iv k,sv nm,iv f,iv t,tk]))=some [.t (sv id),.t tw,.t (iv st),.t td,.t (iv k),.t (sv nm),.t (iv f),.t (iv t),.t tk]:=rfl
structure LdI (H:Heap) (b:Nat):Prop where
 l0:A0f false 1 H (.ptr b 0)=some (.t (sv id))
 l1:A0f false 1 H (.ptr b 1)=some (.t tw)
 l2:A0f false 1 H (.ptr b 2)=some (.t (iv st))
 l3:A0f false 1 H (.ptr b 3)=some (.t td)
 l6:A0f false 1 H (.ptr b 6)=some (.t (iv f))
 l7:A0f false 1 H (.ptr b 7)=some (.t (iv t))
 g:A0f true 5 H (.ptr b 4)=some (.t (.ag [iv k,sv nm,iv f,iv t,tk]))
 a:A0f true 9 H (.ptr b 0)=some (.t (.ag [sv id,tw,iv st,td,iv k,sv nm,iv f,iv t,tk]))
theorem ldI {H:Heap} {b:Nat} (h:Abs.look H b=some (iRow id tw st td k nm f t tk)):LdI id tw st td k nm f t tk H b:=by
 constructor<;>simp[A0f,h,iRow,agOf,allT]
end
theorem bdZ5 {Φ:A0o} {H:Heap} {nx:Nat}:A0d Φ H nx (.build [(0,1),(1,1),(2,1),(3,1),(4,1)] [.int .i64 0,.string ⟨#[]⟩,.int .i64 0,.int .i64 0,.slice none 0 0] []) []=some (.t (.ag (encD A1y)),H,nx):=rfl
abbrev A4t (d:Dc):Row:=.cells 61 [.t (iv d.p.kind),.t (sv d.p.name),.t (iv d.p.frm),.t (iv d.p.to),.t (bv d.yes)]
theorem B5i:FnOK Tryz.prog (G q) 121 2 9 A8q [(.tmp 3)]:=⟨Tryz.f121,Tryz.func121,by kernel_rfl,by kernel_rfl,by kernel_rfl,by kernel_rfl⟩
theorem D8i {X:Row} (hX:∃(ty:Nat) (cs:List T),X = .cells ty (cs.map .t)) (d y:Dc):A1n Tryz.prog (G q) 121 ([]++[PV.t (.ag (eDc.enc y))]++[.ptr 1 0]) [(1,A4t d),(0,X)] 2 (.t (bv (decide (y.p=d.p)))) [(1,A4t d),(0,X)] 2:=by
 have cd:A0y (.t (.ag (eDc.enc y)))=some [.t (iv y.p.kind),.t (sv y.p.name),.t (iv y.p.frm),.t (iv y.p.to),.t (bv y.yes)]:=rfl
 obtain⟨H1,hH1⟩:∃H1:Heap,H1=(2,A4t y)::[(1,A4t d),(0,X)]:=⟨_,rfl⟩
 have ld1:A0f true 4 H1 (.ptr 2 0)=some (.t (.ag (ePr.enc y.p))):=by rw[hH1];rfl
 have ld2:A0f true 4 H1 (.ptr 1 0)=some (.t (.ag (ePr.enc d.p))):=by rw[hH1];rfl
 have eq:=eqs_p y.p d.p;refine B5i.callP rfl ?_;unfold A8q;simp only[List.nil_append,List.singleton_append];refine A0c A1b ?_;simp -implicitDefEqProofs [cd,<-hH1,ld1,ld2,eq];refine⟨.inr rfl,⟨[(3,.t (bv (decide (y.p=d.p))))],[(1,A4t d),(0,X)],2,9⟩,[.t (bv (decide (y.p=d.p)))],B6c (by omega) (fun z hz=>?_) (by simp -implicitDefEqProofs [under]),rfl,rfl,rfl,rfl⟩;simp only[List.mem_cons,List.not_mem_nil,or_false]at hz;rcases hz with rfl | rfl
 ·exact⟨by rw[hH1];rfl,by show 1<2;omega,rfl⟩
 ·obtain⟨ty,cs,rfl⟩:=hX;exact⟨by rw[hH1];rfl,by show 0<2;omega,A2b _ _⟩
def SIt (X:Row) (td:T) (n j:Nat):A0b:=⟨[(28,.t (iv (j:Int))),(27,.t (iv (n:Int))),(26,.t td),(1,.ptr 0 0)],[(0,X)],1,89⟩
theorem st_dc (d:Dc) (H:Heap):A0r 5 ((1,Row.cells 61 [.t (.v (.int .i64 0)),.t (.v (.string ⟨#[]⟩)),.t (.v (.int .i64 0)),.t (.v (.int .i64 0)),.t (.v (.bool false))])::H) (.ptr 1 0) (.t (.ag (eDc.enc d)))=some ((1,A4t d)::H):=rfl
theorem E3o {x:It} {cs:List T} (h:IsIt x cs) (hs:SmI x):A0z Tryz.prog (G q) 69 [.ag cs] (· = iv (chkR x)):=by
 obtain⟨tw,td,k,nm,f,t,tk,ks,rfl,hg,hk,hw,hd,hgD⟩:=A3f h;obtain⟨id,ws,st,ds,gold⟩:=x;simp only at hg hw hd hgD;have hW:=hs.words;have hdl:=hs.len;have hdn:=hs.decs;have hWd:=hs.gold;simp only at hW hdl hdn hWd;have cd:=C5t id tw st td k nm f t tk;have lw:=hw.len;have ldd:=hd.len;have eT:=F2l hw hW
 obtain⟨X,hX⟩:∃X,X=iRow id tw st td k nm f t tk:=⟨_,rfl⟩
 have hXc:∃(ty:Nat) (cs:List T),X = .cells ty (cs.map .t):=⟨_,[sv id,tw,iv st,td,iv k,sv nm,iv f,iv t,tk],hX⟩
 have L0:∀R:Heap,LdI id tw st td k nm f t tk ((0,X)::R) 0:=fun R=>ldI _ _ _ _ _ _ _ _ _ (by rw[hX];rfl);have L1:∀(Y:Row) (R:Heap),LdI id tw st td k nm f t tk ((1,Y)::(0,X)::R) 0:=fun Y R=>ldI _ _ _ _ _ _ _ _ _ (by rw[hX];rfl);have C:Ctx Tryz.prog (G q) _:=(A0x.cons (hTok (q:=q)) (.cons (hDcn (q:=q)) (.cons (hPsd (q:=q)) (.cons (F4j (q:=q)) .nil)))).ctx mixed;refine C0g.call rfl ?_;(conv in B0y=>cbv)
 obtain⟨R,hR⟩:∃R,R=chkR ⟨id,ws,st,ds,gold⟩:=⟨_,rfl⟩
 rw[<-hR];rw[chkR]at hR;simp only at hR;have z:=L0 [];refine A0a C ?_;simp -implicitDefEqProofs [cd];rw[show Row.cells 28 [.t (sv id),.t tw,.t (iv st),.t td,.t (iv k),.t (sv nm),.t (iv f),.t (iv t),.t tk]=X from hX.symm];by_cases h1:chkW ws=0
 rotate_left
 ·rw[if_pos h1]at hR
  have hb:(chkW ws != 0)=true:=by simpa using h1
  refine A0a C ?_;simp -implicitDefEqProofs [z.l1,eT,hb,hR]
 rw[if_neg (fun e=>e h1)]at hR;rw[h1]at eT;refine A0a C ?_;simp -implicitDefEqProofs [z.l1,eT];by_cases h2:st<0
 ·rw[if_pos (.inl h2)]at hR;refine A0a C ?_;simp -implicitDefEqProofs [z.l2,h2,hR]
 by_cases h3:2<st
 ·rw[if_pos (.inr h3)]at hR;refine A0a C ?_;simp -implicitDefEqProofs [z.l2,h2,h3,hR]
 rw[if_neg (fun e=>e.elim h2 h3)]at hR;refine A0a C ?_;simp -implicitDefEqProofs [z.l2,h2,h3];by_cases h4:256<ds.length
 ·rw[if_pos h4]at hR
  have hc:decide ((256:Int)<(ds.length:Int))=true:=by simpa using (by omega:(256:Int)<(ds.length:Int))
  refine A0a C ?_;simp -implicitDefEqProofs [z.l3,ldd,hc,hR]
 rw[if_neg h4]at hR
 have hc:decide ((256:Int)<(ds.length:Int))=false:=by simpa using (by omega:(ds.length:Int)<=256)
 refine A0a C ?_;simp -implicitDefEqProofs [z.l3,ldd,hc];refine A1f (α:=Unit) (fun _=>⟨[(1,.ptr 0 0)],[(0,X)],1,89⟩) (fun _=>R=chkG ⟨id,ws,st,ds,gold⟩) (fun _=>rfl) ?_ ?_
 ·refine A0a C ?_;simp -implicitDefEqProofs [z.l3,ldd];refine A0n ?_;refine A1a (SIt X td ds.length) (fun j=>ds.length-j) (fun j=>j<=ds.length/\(if B4t ws.length (ds.take j) (ds.drop j)≠0 then B4t ws.length (ds.take j) (ds.drop j)else chkG ⟨id,ws,st,ds,gold⟩)=R) 0 (fun _=>rfl) ⟨Nat.zero_le _,hR.symm⟩ ?_ rfl ?_
  ·refine A0e ?_;simp -implicitDefEqProofs [SIt]
  rintro j ⟨hj,heq⟩;by_cases hlt:j<ds.length
  ·obtain⟨d,hdx⟩:∃d,ds[j]?=some d:=⟨_,List.getElem?_eq_getElem hlt⟩
   obtain⟨pp,i1,ld5,_,_⟩:=E3l hd hdx;have e1:IntKind.i64.wrap ((j:Int)+1)=((j+1:Nat):Int):=A0p (by omega) (by omega);have eD:=F2m d.p (ws.length:Int) (hdn d (List.mem_of_getElem? hdx));have y:=L1 (A4t d) [];have ldp:∀R:Heap,A0f true 4 ((1,A4t d)::R) (.ptr 1 0)=some (.t (.ag (ePr.enc d.p))):=fun _=>rfl;have st5:=st_dc d [(0,X)]
   have htk:ds.take j++[d]=ds.take (j+1):=by rw[List.take_add_one,hdx];rfl
   have hck:B4t ws.length (ds.take j) (ds.drop j)=if chkP d.p ws.length≠0 then chkP d.p ws.length else if((ds.take j).any fun y=>decide (y.p=d.p))then 4 else B4t ws.length (ds.take (j+1)) (ds.drop (j+1)):=by
    rw[List.drop_eq_getElem_cons hlt,(List.getElem?_eq_some_iff.1 hdx).2,B4t,htk]
   refine A0a C ?_;simp -implicitDefEqProofs [SIt,hlt];refine A3m ?_;refine A0c C ?_;simp -implicitDefEqProofs;refine⟨rfl,?_⟩;refine A3m ?_;refine A0n ?_;refine A0a C ?_;simp -implicitDefEqProofs [i1,ld5,st5];by_cases g1:chkP d.p ws.length=0
   rotate_left
   ·rw[if_pos g1]at hck;rw[hck,if_pos g1]at heq
    have hb:(R != 0)=true:=by rw[<-heq];simpa using g1
    refine A0a C ?_;simp -implicitDefEqProofs [ldp,y.l1,lw,eD,hb,heq,A8c]
   rw[if_neg (fun e=>e g1)]at hck;rw[g1]at eD;refine A0a C ?_;simp -implicitDefEqProofs [ldp,y.l1,lw,eD];obtain⟨t',sl,hsl⟩:=hd.slice_to (k:=j) (by omega) .i64;have sl:A3l 5 (.t td) none (some (.t (iv (j:Int))))=some (.t t'):=sl;have hcc:=C5q (q:=q) (F:=121) (first:=[]) (cap:=[.ptr 1 0]) (p:=fun y=>decide (y.p=d.p)) (H:=[(1,A4t d),(0,X)]) (nx:=2) hsl (by rw[List.length_take];omega) (fun y _=>D8i hXc d y)
   obtain⟨t1,o1,ok1⟩:∃t1,t1 [.t t',.fn (.func 121) [] [.ptr 1 0]] [(1,A4t d),(0,X)] 2=some (.t (bv ((ds.take j).any fun y=>decide (y.p=d.p))),[(1,A4t d),(0,X)],2)/\HOK Tryz.prog (G q) 112 t1:=⟨_,A2j _ _ _ _,A2x hcc (fun hf=>hf)⟩
   have C1:Ctx Tryz.prog (G q) _:=A0x.nil.ctxH (A1s.cons ok1 .nil) mixed;have mk:exM (.mkf (.func 121) 0) [.ptr 1 0]=some (.fn (.func 121) [] [.ptr 1 0]):=rfl
   cases hany:(ds.take j).any fun y=>decide (y.p=d.p)with
   | true=>
    rw[if_pos hany]at hck;rw[hck,if_pos (by omega)]at heq;rw[hany]at o1;refine A0c C1 ?_;simp -implicitDefEqProofs [y.l3,sl,mk,o1,<-heq,A8c]
   | false=>
    rw[if_neg (by simp[hany])]at hck;rw[hck]at heq;rw[hany]at o1;refine A0c C1 ?_;simp -implicitDefEqProofs [y.l3,sl,mk,o1];refine⟨rfl,?_⟩;refine A0c C ?_;simp -implicitDefEqProofs only[runsM_ops,runsL_cons,runsL_nil];simp -implicitDefEqProofs [e1];refine Abs.Next.mk (j+1) ⟨⟨by omega,by simpa using heq⟩,by omega⟩ ?_;refine B6c (by omega) (fun q hq=>?_) (by simp -implicitDefEqProofs [under]);simp only[List.mem_singleton]at hq;subst hq;obtain⟨ty,cs,rfl⟩:=hXc;exact⟨rfl,by show 0<1;omega,A2b _ _⟩
  ·rw[List.drop_of_length_le (by omega),B4t,if_neg (fun e=>e rfl)]at heq;refine A0c C ?_;simp -implicitDefEqProofs [SIt,hlt];exact Abs.Next.mk () heq.symm (A0e (by simp -implicitDefEqProofs))
 rintro _ hRG;have eP:=F2n hgD hWd
 have z0:=(IsD.enc A1y)
 have eC:=E2b hgD (IsD.enc A1y) hWd.2.2 (by decide);have bz:∀(Φ:A0o) (H:Heap) (nx:Nat),A0d Φ H nx (.build [(0,1),(1,1),(2,1),(3,1),(4,1)] [.int .i64 0,.string ⟨#[]⟩,.int .i64 0,.int .i64 0,.slice none 0 0] []) []=some (.t (.ag (encD A1y)),H,nx):=fun _ _ _=>bdZ5;unfold chkG at hRG;simp only[hg,Dv.frm,Dv.to]at hRG;have g5:=z.g;refine A0c C ?_;by_cases s1:st=1
 ·rw[if_pos s1]at hRG;by_cases s2:f=0
  ·by_cases s3:t=(ws.length:Int)
   ·rw[if_neg (by omega)]at hRG;rw[<-hg]at hRG;subst s1;subst s2;subst s3
    cases hsp:C4w gold with
    | true=>rw[hsp,if_pos rfl]at hRG;rw[hsp]at eP;simp -implicitDefEqProofs [z.l2,z.l6,z.l7,z.l1,lw,g5,eP,hRG]
    | false=>rw[hsp,if_neg (by simp)]at hRG;rw[hsp]at eP;simp -implicitDefEqProofs [z.l2,z.l6,z.l7,z.l1,lw,g5,eP,hRG]
   ·rw[if_pos (.inr s3)]at hRG
    have hb:(t !=(ws.length:Int))=true:=by simpa using s3
    simp -implicitDefEqProofs [z.l2,z.l6,z.l7,z.l1,lw,s1,s2,s3,hb,hRG]
  ·rw[if_pos (.inl s2)]at hRG
   have hb:(f != 0)=true:=by simpa using s2
   simp -implicitDefEqProofs [z.l2,z.l6,z.l7,z.l1,lw,s1,s2,hb,hRG]
 ·rw[if_neg s1]at hRG;rw[<-hg]at hRG
  have b1:(st==1)=false:=by simpa using s1
  have b2:(st != 1)=true:=by simpa using s1
  by_cases s4:cmpD gold A1y=0
  ·rw[if_pos s4]at hRG;simp -implicitDefEqProofs [z.l2,z.l6,z.l7,z.l1,lw,s1,b1,b2,g5,bz,eC,s4,hRG]
  ·rw[if_neg s4]at hRG
   have hb:(cmpD gold A1y != 0)=true:=by simpa using s4
   simp -implicitDefEqProofs [z.l2,z.l6,z.l7,z.l1,lw,s1,b1,b2,g5,bz,eC,hb,hRG]
noncomputable def gItm:List T->Option T:=g1 tIt fun c=>open Classical in if SmI c.x then some (iv (chkR c.x))else none
theorem hItm:GOK Tryz.prog (G q) 69 gItm:=A7r fun a c r ha hr=>by
 split at hr
 ·rename_i h;injection hr with hr;subst hr;have ha:a = .ag c.cs:=ha;subst ha;exact E3o c.ok h
 ·cases hr
theorem E3p (c:IC) (h:SmI c.x):gItm [.ag c.cs]=some (iv (chkR c.x)):=by
 show g1 _ _ _=_;rw[A7s (τ:=tIt) (x:=c) rfl,if_pos h]
theorem C9f {u:T} {l:List IC} (h:IsS eIC u l) {i:Nat} {c:IC} (hx:l[i]?=some c):∃p,A1c 9 (.t u) (.t (iv (i:Int)))=some (.t (.pt p))/\(∀H,A0f true 9 H (.t (.pt p))=some (.t (.ag c.cs))) /\
  (∀H,A0f false 1 H (.t (.pt p))=some (.t (sv c.x.id))):=by
 refine⟨_,h.iaddr hx .i64,fun H=>?_,fun H=>?_⟩
 ·have hl:c.cs.length=9:=c.ok.len;simp only[A0f,if_true];rw[if_pos (by simp[eIC,hl])];show some (PV.t (T.ag (List.take 9 (c.cs++_))))=_;rw[List.take_left' hl]
 ·obtain⟨tw,td,g,e,_,_,_⟩:=c.ok;show A0f false 1 H (.t (.pt (c.cs++rest eIC l i)))=_;rw[e];rfl
def B7p (l:List IC) (j:Nat):Option ByteArray:=match j with
 | 0=>none
 | k+1=>(l[k]?).map (·.x.id)
structure SmB (ver:ByteArray) (l:List IC):Prop where
 ver:ver.size<=lim
 len:l.length<=1000000
 items:∀c∈l,SmI c.x
def bRow (ver:ByteArray) (u:T):Row:=.cells 39 [.t (sv ver),.t u]
structure LdB (ver:ByteArray) (u:T) (H:Heap) (b:Nat):Prop where
 l0:A0f false 1 H (.ptr b 0)=some (.t (sv ver))
 l1:A0f false 1 H (.ptr b 1)=some (.t u)
 a:A0f true 2 H (.ptr b 0)=some (.t (.ag [sv ver,u]))
theorem ldB {ver:ByteArray} {u:T} {H:Heap} {b:Nat} (h:Abs.look H b=some (bRow ver u)):LdB ver u H b:=by
 constructor<;>simp[A0f,h,bRow,agOf,allT]
theorem st_it (H:Heap) (id:ByteArray) (tw:T) (st:Int) (td:T) (k:Int) (nm:ByteArray) (f t:Int) (tk:T) :
  A0r 9 ((1,Row.cells 28 [.t (.v (.string ⟨#[]⟩)),.t nilS,.t (.v (.int .i64 0)),.t nilS,.t (.v (.int .i64 0)),.t (.v (.string ⟨#[]⟩)),.t (.v (.int .i64 0)),.t (.v (.int .i64 0)),.t nilS])::H) (.ptr 1 0) (.t (.ag [sv id,tw,iv st,td,iv k,sv nm,iv f,iv t,tk]))=some ((1,iRow id tw st td k nm f t tk)::H):=rfl
theorem E3q (p id:ByteArray):(!(A9f p id))=C4x (some p) id:=by
 unfold C4x;rw[B1s];by_cases h:lbs p<lbs id
 ·simp[cmpS,h,List.lt_asymm h]
 ·by_cases k:lbs id<lbs p
  ·simp[cmpS,h,k]
  ·simp[cmpS,h,k]
def SCk (X:Row) (u:T) (n j:Nat):A0b:=⟨[(17,.t (iv (j:Int))),(16,.t (iv (n:Int))),(15,.t u),(1,.ptr 0 0)],[(0,X)],1,46⟩
theorem D8j {ver:ByteArray} {u:T} {l:List IC} (hu:IsS eIC u l) (hs:SmB ver l):A0z Tryz.prog (G q) 37 [.ag [sv ver,u]] (· = iv (chkT ⟨ver,l.map IC.x⟩)):=by
 have cd:A0y (.t (.ag [sv ver,u]))=some [.t (sv ver),.t u]:=rfl;have lu:=hu.len;have eV:=C3d hs.ver;have hll:=hs.len
 obtain⟨X,hX⟩:∃X,X=bRow ver u:=⟨_,rfl⟩
 have hXc:∃(ty:Nat) (cs:List T),X = .cells ty (cs.map .t):=⟨_,[sv ver,u],hX⟩
 have L0:∀R:Heap,LdB ver u ((0,X)::R) 0:=fun R=>ldB (by rw[hX];rfl);have L1:∀(Y:Row) (R:Heap),LdB ver u ((1,Y)::(0,X)::R) 0:=fun Y R=>ldB (by rw[hX];rfl);have C:Ctx Tryz.prog (G q) _:=(A0x.cons (hNm (q:=q)) (.cons (hItm (q:=q)) .nil)).ctx mixed;refine B7s.call rfl ?_;(conv in A9v=>cbv)
 obtain⟨R,hR⟩:∃R,R=chkT ⟨ver,l.map IC.x⟩:=⟨_,rfl⟩
 rw[<-hR];rw[chkT]at hR;simp only[List.length_map]at hR;have z:=L0 [];refine A0a C ?_;simp -implicitDefEqProofs [cd];rw[show Row.cells 39 [.t (sv ver),.t u]=X from hX.symm]
 cases h1:A0v false ver with
 | false=>
  rw[if_pos h1]at hR;rw[h1]at eV;refine A0a C ?_;simp -implicitDefEqProofs [z.l0,eV,hR]
 | true=>
 rw[if_neg (by rw[h1];decide)]at hR;rw[h1]at eV;refine A0a C ?_;simp -implicitDefEqProofs [z.l0,eV];by_cases h4:256<l.length
 ·rw[if_pos h4]at hR
  have hc:decide ((256:Int)<(l.length:Int))=true:=by simpa using (by omega:(256:Int)<(l.length:Int))
  refine A0a C ?_;simp -implicitDefEqProofs [z.l1,lu,hc,hR]
 rw[if_neg h4]at hR
 have hc:decide ((256:Int)<(l.length:Int))=false:=by simpa using (by omega:(l.length:Int)<=256)
 refine A0a C ?_;simp -implicitDefEqProofs [z.l1,lu,hc];refine A1f (α:=Unit) (fun _=>⟨[(1,.ptr 0 0)],[(0,X)],1,46⟩) (fun _=>R=0) (fun _=>rfl) ?_ ?_
 ·refine A0a C ?_;simp -implicitDefEqProofs [z.l1,lu];refine A0n ?_;refine A1a (SCk X u l.length) (fun j=>l.length-j) (fun j=>j<=l.length/\R=chkL (B7p l j) ((l.map IC.x).drop j)) 0 (fun _=>rfl) ⟨Nat.zero_le _,hR⟩ ?_ rfl ?_
  ·refine A0e ?_;simp -implicitDefEqProofs [SCk]
  rintro j ⟨hj,heq⟩;by_cases hlt:j<l.length
  ·obtain⟨c,hc⟩:∃c,l[j]?=some c:=⟨_,List.getElem?_eq_getElem hlt⟩
   obtain⟨pp,i1,ld9,_⟩:=C9f hu hc;have hsc:=hs.items c (List.mem_of_getElem? hc);have eI:=E3p c hsc;have eN:=C3d hsc.id
   have hd:(l.map IC.x).drop j=c.x::(l.map IC.x).drop (j+1):=by
    rw[List.drop_eq_getElem_cons (by simpa using hlt),List.getElem_map,(List.getElem?_eq_some_iff.1 hc).2]
   have hpn:B7p l (j+1)=some c.x.id:=by simp[B7p,hc]
   rw[hd,chkL,<-hpn]at heq;have e1:IntKind.i64.wrap ((j:Int)+1)=((j+1:Nat):Int):=A0p (by omega) (by omega);obtain⟨tw,td,k,nm,f,t,tk,ks,ecs,_⟩:=A3f c.ok;rw[ecs]at ld9 eI;have y:=L1 (iRow c.x.id tw c.x.state td k nm f t tk) [];have yI:=ldI c.x.id tw c.x.state td k nm f t tk (H:=[(1,iRow c.x.id tw c.x.state td k nm f t tk),(0,X)]) (b:=1) rfl;have st9:=st_it [(0,X)] c.x.id tw c.x.state td k nm f t tk;refine A0a C ?_;simp -implicitDefEqProofs [SCk,hlt];refine A3m ?_;refine A0c C ?_;simp -implicitDefEqProofs;refine⟨rfl,?_⟩;refine A3m ?_;refine A0n ?_;refine A0a C ?_;simp -implicitDefEqProofs [i1,ld9,st9]
   cases g1:A0v false c.x.id with
   | false=>
    rw[if_pos g1]at heq;rw[g1]at eN;refine A0a C ?_;simp -implicitDefEqProofs [yI.l0,eN,heq,A8c]
   | true=>
   rw[if_neg (by rw[g1];decide)]at heq;rw[g1]at eN;refine A0a C ?_;simp -implicitDefEqProofs [yI.l0,eN];refine A1f (α:=Unit) (fun _=>⟨[(17,.t (iv (j:Int))),(16,.t (iv (l.length:Int))),(15,.t u),(4,.ptr 1 0),(1,.ptr 0 0)],[(1,iRow c.x.id tw c.x.state td k nm f t tk),(0,X)],2,46⟩) (fun _=>C4x (B7p l j) c.x.id=false) (fun _=>rfl) ?_ ?_
   ·by_cases h0:j=0
    ·have hl:C4x (B7p l j) c.x.id=false:=by rw[h0];rfl
     have b1:decide (0<j)=false:=by simpa using h0
     refine A0c C ?_;simp -implicitDefEqProofs [b1];refine Abs.Next.mk () hl ?_;exact A0e (by simp -implicitDefEqProofs)
    ·have hj1:j-1<l.length:=by omega
     obtain⟨c0,hc0⟩:∃c,l[j-1]?=some c:=⟨_,List.getElem?_eq_getElem hj1⟩
     obtain⟨pp0,i0,_,ldid⟩:=C9f hu hc0
     have hp:B7p l j=some c0.x.id:=by
      obtain⟨j',rfl⟩:∃j',j=j'+1:=⟨j-1,by omega⟩
      simp at hc0;simp[B7p,hc0]
     have b0:0<j:=by omega
     have e0:IntKind.i64.wrap ((j:Int)-1)=((j-1:Nat):Int):=by rw[show(j:Int)-1=((j-1:Nat):Int)by omega];exact A0p rfl (by omega)
     have hless:=E3q c0.x.id c.x.id;rw[<-hp]at hless
     cases hl:C4x (B7p l j) c.x.id with
     | true=>
      rw[hl]at hless;rw[if_pos hl]at heq;refine A0c C ?_;simp -implicitDefEqProofs [b0,yI.l0,y.l1,e0,i0,ldid,hless,heq,A8c]
     | false=>
      rw[hl]at hless;refine A0c C ?_;simp -implicitDefEqProofs [b0,yI.l0,y.l1,e0,i0,ldid,hless];refine Abs.Next.mk () (by simp[hl]) ?_;exact A0e (by simp -implicitDefEqProofs)
   rintro _ hl;rw[if_neg (by rw[hl];decide)]at heq;by_cases g2:chkR c.x=0
   ·rw[if_neg (fun e=>e g2)]at heq;rw[g2]at eI;refine A0c C ?_;simp -implicitDefEqProofs [yI.a,eI];refine⟨rfl,?_⟩;refine A0c C ?_;simp -implicitDefEqProofs only[runsM_ops,runsL_cons,runsL_nil];simp -implicitDefEqProofs [e1];refine Abs.Next.mk (j+1) ⟨⟨by omega,heq⟩,by omega⟩ ?_;refine B6c (by omega) (fun q hq=>?_) (by simp -implicitDefEqProofs [under]);simp only[List.mem_singleton]at hq;subst hq;obtain⟨ty,cs,rfl⟩:=hXc;exact⟨rfl,by show 0<1;omega,A2b _ _⟩
   ·rw[if_pos g2]at heq
    have hb:(R != 0)=true:=by rw[heq];simpa using g2
    refine A0c C ?_;simp -implicitDefEqProofs [yI.a,eI,<-heq,hb,A8c]
  ·rw[List.drop_of_length_le (by simp;omega),chkL]at heq;refine A0c C ?_;simp -implicitDefEqProofs [SCk,hlt];exact Abs.Next.mk () heq (A0e (by simp -implicitDefEqProofs))
 rintro _ hRG;refine A0c C ?_;simp -implicitDefEqProofs [hRG]
noncomputable def A7n:A0j:=cm Tryz.f13 81
theorem B5j {q:Gl}:FnOK Tryz.prog (G q) 13 2 81 A7n [(.tmp 4)]:=fk Tryz.func13 (by kernel_rfl) (by kernel_rfl)
noncomputable def A5e:A0j:=cm Tryz.f36 128
theorem B5k {q:Gl}:FnOK Tryz.prog (G q) 36 0 128 A5e [(.tmp 0)]:=fk Tryz.func36 (by kernel_rfl) (by kernel_rfl)
def SSa (t t':T) (j:Nat):A0b:=⟨[(5,.t (iv (j:Int))),(1,.t t'),(0,.t t)],[],0,26⟩
theorem E3r {t t':T} {l:List ByteArray} (h:IsS eStr t l) (h':IsS eStr t' l) (hl:l.length<=2000000):A0z Tryz.prog (G q) 57 [t,t'] (· = bv true):=by
 have C:=A1b (q:=q);have e1:=h.len;have e2:=h'.len;refine D6x.call rfl ?_;(conv in C2q=>cbv);refine A0a A1b ?_;simp -implicitDefEqProofs;refine A0a A1b ?_;simp -implicitDefEqProofs [e1,e2];refine A1f (α:=Unit) (fun _=>⟨[],[],0,26⟩) (fun _=>True) (fun _=>rfl) ?_ ?_
 ·refine A0a A1b ?_;simp -implicitDefEqProofs;refine A0n ?_;refine A1a (SSa t t') (fun j=>l.length-j) (fun j=>j<=l.length) 0 (fun _=>rfl) (Nat.zero_le _) ?_ rfl ?_
  ·refine A0e ?_;simp -implicitDefEqProofs [SSa]
  rintro j hj;by_cases hlt:j<l.length
  ·obtain⟨x,hx⟩:∃x,l[j]?=some x:=⟨_,List.getElem?_eq_getElem hlt⟩
   have i1:=h.iaddr hx .i64;have i2:=h'.iaddr hx .i64;have i1:A1c 1 (.t t) (.t (iv (j:Int)))=_:=i1;have i2:A1c 1 (.t t') (.t (iv (j:Int)))=_:=i2;have w1:IntKind.i64.wrap ((j:Int)+1)=((j+1:Nat):Int):=A0p (by omega) (by omega);refine A0c A1b ?_;simp -implicitDefEqProofs [SSa,e1,hlt,i1,i2,A0f,eStr,A2w,w1];refine Abs.Next.mk (j+1) ⟨by omega,by omega⟩ ?_;exact A0e (by simp -implicitDefEqProofs)
  ·refine A0c A1b ?_;simp -implicitDefEqProofs [SSa,e1,hlt];exact Abs.Next.mk () trivial (A0e fun q hq=>by cases hq)
 rintro _ _;refine A0c A1b ?_;simp -implicitDefEqProofs
noncomputable def F5k:List T->Option T:=g2 (tSl eStr) (tSl eStr) fun a b=>open Classical in if a=b/\a.length<=2000000 then some (bv true)else none
theorem hSame:GOK Tryz.prog (G q) 57 F5k:=A7t fun a b x y r ha hb hr=>by
 split at hr
 ·rename_i h;injection hr with hr;subst hr;obtain⟨rfl,hl⟩:=h;exact E3r ha hb hl
 ·cases hr
theorem E7x {t t':T} {l:List ByteArray} (h:IsS eStr t l) (h':IsS eStr t' l) (hl:l.length<=2000000):F5k [t,t']=some (bv true):=by
 show g2 _ _ _ _=_;rw[A7c (τ:=tSl eStr) (σ:=tSl eStr) h h',if_pos ⟨rfl,hl⟩]
theorem eqs_d (d:Dc):A1m [.i,.s,.i,.i,.b] (eDc.enc d) (eDc.enc d)=some true:=by
 simp[A1m,eDc]
theorem E3s (d:Dv):cmpD d d=0:=B4r.2 rfl
structure SmE (x:It):Prop where
 words:x.words.length<=2000000
 decs:x.decs.length<=1000000
 gold:nodD x.gold<=1000000
def SSi (X Y:Row) (j:Nat):A0b:=⟨[(5,.t (iv (j:Int))),(3,.ptr 1 0),(2,.ptr 0 0)],[(1,Y),(0,X)],2,61⟩
section
variable {x : It} {cs cs' : List T}
theorem C0l (h:IsIt x cs) (h':IsIt x cs') (hs:SmE x):A0z Tryz.prog (G q) 46 [.ag cs,.ag cs'] (· = bv true):=by
 obtain⟨tw,td,k,nm,f,t,tk,ks,rfl,hg,hk,hw,hd,hgD⟩:=A3f h;obtain⟨tw',td',k',nm',f',t',tk',ks',rfl,hg',hk',hw',hd',hgD'⟩:=A3f h';obtain⟨id,ws,st,ds,gold⟩:=x;obtain⟨s1,s2,s3⟩:=hs;simp only at s1 s2 s3 hg hw hd hgD hg' hw' hd' hgD';have cd:=C5t id tw st td k nm f t tk;have cd':=C5t id tw' st td' k' nm' f' t' tk'
 obtain⟨X,hX⟩:∃X,X=iRow id tw st td k nm f t tk:=⟨_,rfl⟩
 obtain⟨Y,hY⟩:∃Y,Y=iRow id tw' st td' k' nm' f' t' tk':=⟨_,rfl⟩
 have z:=ldI id tw st td k nm f t tk (H:=[(1,Y),(0,X)]) (b:=0) (by rw[hX];rfl);have y:=ldI id tw' st td' k' nm' f' t' tk' (H:=[(1,Y),(0,X)]) (b:=1) (by rw[hY];rfl);have eS:=E7x hw hw' s1;have eC:=E2b hgD hgD' s3 s3;rw[E3s]at eC;have l1:=hd.len;have l2:=hd'.len;have C:Ctx Tryz.prog (G q) _:=(A0x.cons (hSame (q:=q)) (.cons (hRCmp (q:=q)) .nil)).ctx mixed;refine C1s.call rfl ?_;(conv in B2o=>cbv);refine A0a C ?_;simp -implicitDefEqProofs [cd,cd'];rw[show Row.cells 28 [.t (sv id),.t tw,.t (iv st),.t td,.t (iv k),.t (sv nm),.t (iv f),.t (iv t),.t tk]=X from hX.symm];rw[show Row.cells 28 [.t (sv id),.t tw',.t (iv st),.t td',.t (iv k'),.t (sv nm'),.t (iv f'),.t (iv t'),.t tk']=Y from hY.symm];refine A0a C ?_;simp -implicitDefEqProofs [z.l0,y.l0,z.l1,y.l1,z.l2,y.l2,z.l3,y.l3,z.g,y.g,eS,eC,l1,l2,A2w];refine A1f (α:=Unit) (fun _=>⟨[],[],0,61⟩) (fun _=>True) (fun _=>rfl) ?_ ?_
 ·refine A0a C ?_;simp -implicitDefEqProofs;refine A0n ?_;refine A1a (SSi X Y) (fun j=>ds.length-j) (fun j=>j<=ds.length) 0 (fun _=>rfl) (Nat.zero_le _) ?_ rfl ?_
  ·refine B6c (by omega) (fun r hr=>?_) (by simp -implicitDefEqProofs [SSi,under]);simp only[List.mem_cons,List.not_mem_nil,or_false]at hr;rcases hr with rfl | rfl
   ·exact⟨rfl,by show 1<2;omega,by rw[hY];exact A2b _ [sv id,tw',iv st,td',iv k',sv nm',iv f',iv t',tk']⟩
   ·exact⟨rfl,by show 0<2;omega,by rw[hX];exact A2b _ [sv id,tw,iv st,td,iv k,sv nm,iv f,iv t,tk]⟩
  rintro j hj;by_cases hlt:j<ds.length
  ·obtain⟨d,hx⟩:∃d,ds[j]?=some d:=⟨_,List.getElem?_eq_getElem hlt⟩
   obtain⟨p1,i1,g1,_⟩:=E3l hd hx;obtain⟨p2,i2,g2,_⟩:=E3l hd' hx;have eq:=eqs_d d;have w1:IntKind.i64.wrap ((j:Int)+1)=((j+1:Nat):Int):=A0p (by omega) (by omega);refine A0c C ?_;simp -implicitDefEqProofs [SSi,z.l3,y.l3,l1,hlt,i1,i2,g1,g2,eq,w1];refine Abs.Next.mk (j+1) ⟨by omega,by omega⟩ ?_;refine B6c (by omega) (fun r hr=>?_) (by simp -implicitDefEqProofs [under]);simp only[List.mem_cons,List.not_mem_nil,or_false]at hr;rcases hr with rfl | rfl
   ·exact⟨rfl,by show 1<2;omega,by rw[hY];exact A2b _ [sv id,tw',iv st,td',iv k',sv nm',iv f',iv t',tk']⟩
   ·exact⟨rfl,by show 0<2;omega,by rw[hX];exact A2b _ [sv id,tw,iv st,td,iv k,sv nm,iv f,iv t,tk]⟩
  ·refine A0c C ?_;simp -implicitDefEqProofs [SSi,z.l3,l1,hlt];exact Abs.Next.mk () trivial (B1o (by omega) fun q hq=>by cases hq)
 rintro _ _;refine A0c C ?_;simp -implicitDefEqProofs
end
noncomputable def gSI:List T->Option T:=g2 tIt tIt fun a b=>open Classical in if a.x=b.x/\SmE a.x then some (bv true)else none
theorem hSI47:GOK Tryz.prog (G q) 46 gSI:=A7t fun a b x y r ha hb hr=>by
 split at hr
 ·rename_i h;injection hr with hr;subst hr;have ha:a = .ag x.cs:=ha;have hb:b = .ag y.cs:=hb;subst ha;subst hb;exact C0l x.ok (h.1▸y.ok) h.2
 ·cases hr
theorem F5l (a b:IC) (h:a.x=b.x) (hs:SmE a.x):gSI [.ag a.cs,.ag b.cs]=some (bv true):=by
 show g2 _ _ _ _=_;rw[A7c (τ:=tIt) (σ:=tIt) (x:=a) (y:=b) rfl rfl,if_pos ⟨h,hs⟩]
def SSt (X Y:Row) (j:Nat):A0b:=⟨[(5,.t (iv (j:Int))),(3,.ptr 1 0),(2,.ptr 0 0)],[(1,Y),(0,X)],2,39⟩
section
variable {ver : ByteArray} {u u' : T} {l l' : List IC}
theorem B5l (h:IsS eIC u l) (h':IsS eIC u' l') (he:l.map IC.x=l'.map IC.x) (hl:l.length<=1000000) (hs:∀c∈l,SmE c.x):A0z Tryz.prog (G q) 41 [.ag [sv ver,u],.ag [sv ver,u']] (· = bv true):=by
 have hll:l'.length=l.length:=by have:=congrArg List.length he;simpa using this.symm
 have cd:A0y (.t (.ag [sv ver,u]))=some [.t (sv ver),.t u]:=rfl;have cd':A0y (.t (.ag [sv ver,u']))=some [.t (sv ver),.t u']:=rfl
 obtain⟨X,hX⟩:∃X,X=bRow ver u:=⟨_,rfl⟩
 obtain⟨Y,hY⟩:∃Y,Y=bRow ver u':=⟨_,rfl⟩
 have z:=ldB (ver:=ver) (u:=u) (H:=[(1,Y),(0,X)]) (b:=0) (by rw[hX];rfl);have y:=ldB (ver:=ver) (u:=u') (H:=[(1,Y),(0,X)]) (b:=1) (by rw[hY];rfl);have l1:=h.len;have l2:=h'.len;rw[hll]at l2;have C:Ctx Tryz.prog (G q) _:=(A0x.cons (hSI47 (q:=q)) .nil).ctx mixed;refine D8h.call rfl ?_;(conv in C3p=>cbv);refine A0a C ?_;simp -implicitDefEqProofs [cd,cd'];rw[show Row.cells 39 [.t (sv ver),.t u]=X from hX.symm,show Row.cells 39 [.t (sv ver),.t u']=Y from hY.symm];refine A0a C ?_;simp -implicitDefEqProofs [z.l0,y.l0,z.l1,y.l1,l1,l2,A2w];refine A1f (α:=Unit) (fun _=>⟨[],[],0,39⟩) (fun _=>True) (fun _=>rfl) ?_ ?_
 ·refine A0a C ?_;simp -implicitDefEqProofs;refine A0n ?_;refine A1a (SSt X Y) (fun j=>l.length-j) (fun j=>j<=l.length) 0 (fun _=>rfl) (Nat.zero_le _) ?_ rfl ?_
  ·refine B6c (by omega) (fun r hr=>?_) (by simp -implicitDefEqProofs [SSt,under]);simp only[List.mem_cons,List.not_mem_nil,or_false]at hr;rcases hr with rfl | rfl
   ·exact⟨rfl,by show 1<2;omega,by rw[hY];exact A2b _ [sv ver,u']⟩
   ·exact⟨rfl,by show 0<2;omega,by rw[hX];exact A2b _ [sv ver,u]⟩
  rintro j hj;by_cases hlt:j<l.length
  ·obtain⟨c,hx⟩:∃c,l[j]?=some c:=⟨_,List.getElem?_eq_getElem hlt⟩
   obtain⟨c',hx'⟩:∃c,l'[j]?=some c:=⟨_,List.getElem?_eq_getElem (by omega)⟩
   obtain⟨p1,i1,g1,_⟩:=C9f h hx;obtain⟨p2,i2,g2,_⟩:=C9f h' hx'
   have hcc:c.x=c'.x:=by
    have:=congrArg (fun m=>m[j]?) he;simpa[List.getElem?_map,hx,hx']using this
   have eS:=F5l c c' hcc (hs c (List.mem_of_getElem? hx));have w1:IntKind.i64.wrap ((j:Int)+1)=((j+1:Nat):Int):=A0p (by omega) (by omega);refine A0c C ?_;simp -implicitDefEqProofs [SSt,z.l1,y.l1,l1,hlt,i1,i2,g1,g2,eS,w1];refine Abs.Next.mk (j+1) ⟨by omega,by omega⟩ ?_;refine B6c (by omega) (fun r hr=>?_) (by simp -implicitDefEqProofs [under]);simp only[List.mem_cons,List.not_mem_nil,or_false]at hr;rcases hr with rfl | rfl
   ·exact⟨rfl,by show 1<2;omega,by rw[hY];exact A2b _ [sv ver,u']⟩
   ·exact⟨rfl,by show 0<2;omega,by rw[hX];exact A2b _ [sv ver,u]⟩
  ·refine A0c C ?_;simp -implicitDefEqProofs [SSt,z.l1,l1,hlt];exact Abs.Next.mk () trivial (B1o (by omega) fun q hq=>by cases hq)
 rintro _ _;refine A0c C ?_;simp -implicitDefEqProofs
end
end Go.Proofs.YtmplckgbeaifkaaGreatDoor
namespace Go.Abs
open Go
section
variable {P : Program} {G : A0q} {B : Nat}
theorem B7q:∀(F:List Nat) (H:Heap) (k:Nat),k∉F->look (remAll H F) k=look H k
 | [],H,k,_=>rfl
 | b::F,H,k,h=>by
  rw[List.mem_cons,not_or]at h;show look (remAll (rem H b) F) k=_;rw[B7q F _ k h.2,A2f,if_neg h.1]
theorem E7y {α:Type} {e:Enc α} {ty b:Nat} {H:Heap} {l:List α} (h:A1e e ty H b l):frzP H [b] (rowP e b l) = .t (A2e e l):=by
 unfold frzP;rw[h.toT];cases l<;>simp[E0k]
theorem B8g (F:List Nat) {env env':List (Nat×PV)} {H R:Heap} {nx nx' n:Nat} (hB:B<=nx') (hR:∀q∈R,q.1∉F/\(∃r0,Abs.look H q.1=some r0/\C2l H F r0=q.2)/\q.1<nx'/\A2a nx' q.2=true)
  (he:∀q∈env',(∃p0,Abs.look env q.1=some p0/\frzP H F p0=q.2)/\under nx' q.2=true):Sub P G B ⟨env,H,nx,n⟩ ⟨env',R,nx',n⟩:=by
 refine(C4l F).trans ?_;unfold A0b.frz;refine B6c hB (fun q hq=>?_) fun q hq=>?_
 ·obtain⟨h1,⟨r0,h2,h3⟩,h4,h5⟩:=hR q hq;refine⟨?_,h4,h5⟩;rw[A9e,B7q _ _ _ h1,h2,<-h3];rfl
 ·obtain⟨⟨p0,h1,h2⟩,h3⟩:=he q hq;refine⟨?_,h3⟩;rw[A9e,h1,<-h2];rfl
end
end Go.Abs
namespace Go.Proofs.YtmplckgbeaifkaaGreatDoor
open Go Go.Abs
variable {q : Gl}
noncomputable def gSiz (k:Nat):List T->Option T
 | [a,.v (.int .i64 m)]=>(tD.dec a).bind fun d=>if 0<=m/\m<k/\m<=1000 then some (iv (sizD d m.toNat:Nat))else none
 | _=>none
theorem F5m {c:List T} {d:Dv} (h:Abs.IsD d c):tD.dec (.ag c)=some d:=by
 have hd:∃x,tD.dec (.ag c)=some x:=by
  unfold Ty.dec;rw[dif_pos ⟨d,c,rfl,h⟩];exact⟨_,rfl⟩
 obtain⟨x,hx⟩:=hd;rw[hx,tD.uniq (.ag c) x d (Ty.is_dec hx) ⟨c,rfl,h⟩]
theorem E3t {k:Nat} {c:List T} {d:Dv} (h:Abs.IsD d c) {m:Nat} (hm:m<k) (h1:m<=1000):gSiz k [.ag c,iv (m:Int)]=some (iv (sizD d m:Nat)):=by
 simp only[gSiz,F5m h,Option.bind_some,Int.toNat_natCast];rw[if_pos (by omega)]
def SSz (X:Row) (m:Nat) (a:Nat×Nat):A0b:=⟨[(6,.t (iv (a.1:Int))),(5,.t (iv (a.2:Int))),(2,.ptr 0 0),(1,.t (iv (m:Int)))],[(0,X)],1,44⟩
theorem E3u {n:Nat} (hrec:GOK Tryz.prog (G q) 97 (gSiz n)) {c:List T} {d:Dv} (h:Abs.IsD d c) {m:Nat} (hm:m<=n) (h1:m<=1000):A0z Tryz.prog (G q) 97 [.ag c,iv (m:Int)] (· = iv (sizD d m:Nat)):=by
 cases d with
 | mk k nm f tt ks=>
 obtain⟨tk,rfl,hk⟩:=h.parts;have C:Ctx Tryz.prog (G q) _:=(A0x.cons hrec .nil).ctx mixed;have cd:=A9o k nm f tt tk;have lk:=hk.len
 obtain⟨X,hX⟩:∃X,X=dRow k nm f tt tk:=⟨_,rfl⟩
 have l1:∀R:Heap,A0f false 1 ((0,X)::R) (.ptr 0 1)=some (.t (sv nm)):=fun _=>by rw[hX];rfl
 have l4:∀R:Heap,A0f false 1 ((0,X)::R) (.ptr 0 4)=some (.t tk):=fun _=>by rw[hX];rfl
 refine D7n.call rfl ?_;(conv in C2x=>cbv)
 obtain⟨R,hR⟩:∃R,R=sizD (.mk k nm f tt ks) m:=⟨_,rfl⟩
 rw[<-hR];rw[sizD]at hR;refine A0a C ?_;simp -implicitDefEqProofs [cd];rw[show Row.cells 26 [.t (iv k),.t (sv nm),.t (iv f),.t (iv tt),.t tk]=X from hX.symm];by_cases hbig:100<nm.size\/m<ks.length
 ·rw[if_pos hbig]at hR;have e1:IntKind.i64.wrap ((m:Int)+1)=((m+1:Nat):Int):=A0p (by omega) (by omega);subst hR;refine A0c C ?_;by_cases hn:100<nm.size
  ·have hb:decide ((100:Int)<(nm.size:Int))=true:=by simpa using (by omega:(100:Int)<(nm.size:Int))
   simp -implicitDefEqProofs [l1,hb,e1]
  ·have hb:decide ((100:Int)<(nm.size:Int))=false:=by simpa using (by omega:(nm.size:Int)<=100)
   have hb2:m<ks.length:=by omega
   simp -implicitDefEqProofs [l1,hb,l4,lk,hb2,e1]
 rw[if_neg hbig]at hR;have hn:¬100<nm.size:=fun e=>hbig (.inl e);have hkl:¬m<ks.length:=fun e=>hbig (.inr e)
 have hb:decide ((100:Int)<(nm.size:Int))=false:=by simpa using (by omega:(nm.size:Int)<=100)
 refine A0a C ?_;simp -implicitDefEqProofs [l1,hb,l4,lk,hkl];refine A0a C ?_;simp -implicitDefEqProofs;refine A1f (α:=Unit) (fun _=>⟨[(5,.t (iv (R:Int)))],[(0,X)],1,44⟩) (fun _=>True) (fun _=>rfl) ?_ ?_
 ·refine A0a C ?_;simp -implicitDefEqProofs;refine A0n ?_;refine A1a (SSz X m) (fun a=>ks.length-a.1) (fun a=>a.1<=ks.length/\1<=a.2/\a.2<=m+1/\sizK (ks.drop a.1) m a.2=R) (0,1) (fun _=>rfl) ⟨Nat.zero_le _,Nat.le_refl _,by show 1<=m+1;omega,hR.symm⟩ ?_ rfl ?_
  ·refine A0e ?_;simp -implicitDefEqProofs [SSz]
  rintro⟨j,z⟩ ⟨hj,hz1,hz,heq⟩;simp only at hj hz1 hz heq;refine A0c C ?_;by_cases hlt:j<ks.length
  ·obtain⟨x,hx⟩:∃x,ks[j]?=some x:=⟨_,List.getElem?_eq_getElem hlt⟩
   rw[List.drop_eq_getElem_cons hlt,(List.getElem?_eq_some_iff.1 hx).2,sizK]at heq;by_cases hzm:z<=m
   ·rw[if_pos hzm]at heq;obtain⟨pp,cx,i1,ld,hcx⟩:=C3a hk hx;have e1:IntKind.i64.wrap ((j:Int)+1)=((j+1:Nat):Int):=A0p (by omega) (by omega);have e2:IntKind.i64.wrap ((m:Int)-(z:Int))=((m-z:Nat):Int):=A0p (by omega) (by omega);have hsz:=E1r x (m-z);have eS:=E3t (k:=n) hcx (m:=m-z) (by omega) (by omega);have e3:IntKind.i64.wrap ((z:Int)+((sizD x (m-z):Nat):Int))=((z+sizD x (m-z):Nat):Int):=A0p (by omega) (by omega);simp -implicitDefEqProofs [SSz,l4,lk,hlt,hzm,i1,ld,e2,eS,e3,e1];exact Abs.Next.mk (j+1,z+sizD x (m-z)) ⟨⟨by show j+1<=_;omega,by show 1<=z+_;omega,by show z+_<=_;omega,heq⟩,by show ks.length-(j+1)<ks.length-j;omega⟩ (A0e (by simp -implicitDefEqProofs [SSz]))
   ·rw[if_neg hzm]at heq;simp -implicitDefEqProofs [SSz,l4,lk,hlt,hzm];exact Abs.Next.mk () trivial (A0e (by simp -implicitDefEqProofs [heq]))
  ·rw[List.drop_of_length_le (by omega),sizK]at heq;simp -implicitDefEqProofs [SSz,l4,lk,hlt];exact Abs.Next.mk () trivial (A0e (by simp -implicitDefEqProofs [heq]))
 ·rintro _ -;refine A0c C ?_;simp -implicitDefEqProofs
theorem E3v:∀n,GOK Tryz.prog (G q) 97 (gSiz n)
 | 0,args,r,h=>by
  unfold gSiz at h;split at h
  ·obtain⟨d,_,h⟩:=Option.bind_eq_some_iff.1 h;rw[if_neg (by omega)]at h;cases h
  ·cases h
 | n+1,args,r,h=>by
  unfold gSiz at h;split at h
  ·rename_i a m;obtain⟨d,h1,h⟩:=Option.bind_eq_some_iff.1 h;split at h
   ·rename_i hn;injection h with h;subst h;obtain⟨c,rfl,hc⟩:=Ty.is_dec h1;have:=E3u (q:=q) (E3v n) hc (m:=m.toNat) (by omega) (by omega);rwa[show((m.toNat:Nat):Int)=m by omega]at this
   ·cases h
  ·cases h
noncomputable def C3q:List T->Option T
 | [a,.v (.int .i64 m)]=>(tD.dec a).bind fun d=>if 0<=m/\m<=1000 then some (bv (decide (sizD d m.toNat<=m.toNat)))else none
 | _=>none
theorem F0a:GOK Tryz.prog (G q) 51 C3q:=fun args r h=>by
 unfold C3q at h;split at h
 ·rename_i a m;obtain⟨d,h1,h⟩:=Option.bind_eq_some_iff.1 h;split at h
  ·rename_i hn;injection h with h;subst h;obtain⟨c,rfl,hc⟩:=Ty.is_dec h1
   obtain⟨k,rfl⟩:∃k:Nat,m=(k:Int):=⟨m.toNat,by omega⟩
   have eS:=E3t (k:=1001) hc (m:=k) (by omega) (by omega)
   cases d with
   | mk kk nm f tt ks=>
   obtain⟨tk,rfl,hk⟩:=hc.parts;have cd:=A9o kk nm f tt tk;have ld:A0f true 5 [(0,.cells 26 [.t (iv kk),.t (sv nm),.t (iv f),.t (iv tt),.t tk])] (.ptr 0 0)=some (.t (.ag [iv kk,sv nm,iv f,iv tt,tk])):=rfl;refine D1e.runs ((A0x.cons (E3v (q:=q) 1001) .nil).ctx mixed) rfl ?_
   (conv in B9v=>cbv);simp -implicitDefEqProofs [cd,ld,eS]
  ·cases h
 ·cases h
theorem C9g {c:List T} {d:Dv} (h:Abs.IsD d c) {m:Nat} (h1:m<=1000):C3q [.ag c,iv (m:Int)]=some (bv (decide (sizD d m<=m))):=by
 simp only[C3q,F5m h,Option.bind_some,Int.toNat_natCast];rw[if_pos (by omega)]
section
variable (id : ByteArray) (tw : T) (st : Int) (td : T) (k : Int) (nm : ByteArray) (f t : Int) (tk : T) (R : Heap)
theorem sI9 (b:Nat) (cs0:List PV) (h:cs0.length=9):A0r 9 ((b,.cells 28 cs0)::R) (.ptr b 0) (.t (.ag [sv id,tw,iv st,td,iv k,sv nm,iv f,iv t,tk]))=some ((b,iRow id tw st td k nm f t tk)::R):=by
 match cs0,h with
 | [_,_,_,_,_,_,_,_,_],_=>simp[A0r,A0y,A3h,look,iRow]
theorem sI10 (id':ByteArray) (tw':T) (st':Int) (td':T) (k':Int) (nm':ByteArray) (f' t':Int) (tk':T) :
  A0r 9 ((1,iRow id' tw' st' td' k' nm' f' t' tk')::R) (.ptr 1 0) (.t (.ag [sv id,tw,iv st,td,iv k,sv nm,iv f,iv t,tk]))=some ((1,iRow id tw st td k nm f t tk)::R):=rfl
end
def zI:Row:=iRow ⟨#[]⟩ nilS 0 nilS 0 ⟨#[]⟩ 0 0 nilS
end Go.Proofs.YtmplckgbeaifkaaGreatDoor
namespace Go.Abs
open Go
section
variable {P : Program} {G : A0q} {B : Nat} {α β : Type}
theorem B6n {e:Enc α} {ty b c:Nat} {l:List α} {H:Heap} (h:c≠b):look (rowH e ty b l++H) c=look H c:=by
 cases l with
 | nil=>rfl
 | cons x r=>simp only[rowH,List.cons_append,List.nil_append,look_cons,if_neg (Ne.symm h)]
end
end Go.Abs
namespace Go.Proofs.YtmplckgbeaifkaaGreatDoor
open Go Go.Abs
variable {q : Gl}
noncomputable def gChk:List T->Option T:=g1 tTb fun b=>open Classical in if SmB b.ver b.items then some (iv (chkT b.tb))else none
theorem hChk:GOK Tryz.prog (G q) 37 gChk:=A7r fun a b r ha hr=>by
 split at hr
 ·rename_i h;injection hr with hr;subst hr;obtain⟨u,rfl,hu⟩:=ha;exact D8j hu h
 ·cases hr
theorem D1z {ver:ByteArray} {u:T} {l:List IC} (hu:IsS eIC u l) (hs:SmB ver l):gChk [.ag [sv ver,u]]=some (iv (chkT ⟨ver,l.map IC.x⟩)):=by
 show g1 _ _ _=_;rw[A7s (τ:=tTb) (x:=⟨ver,l⟩) ⟨u,rfl,hu⟩,if_pos hs];rfl
end Go.Proofs.YtmplckgbeaifkaaGreatDoor
