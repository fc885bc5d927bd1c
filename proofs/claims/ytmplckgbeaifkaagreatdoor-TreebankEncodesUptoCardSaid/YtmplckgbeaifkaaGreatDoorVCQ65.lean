/- Auxiliary facts. -/
import Derived.Test.YtmplckgbeaifkaaGreatDoorVCQ53
import Derived.Test.YtmplckgbeaifkaaGreatDoorVCQ32
set_option linter.unusedSimpArgs false
set_option maxRecDepth 100000
set_option maxHeartbeats 0
set_option linter.unusedVariables false
namespace Go.Proofs.YtmplckgbeaifkaaGreatDoor
open Go Go.Abs
variable {q : Gl}
def ltW (ws:List ByteArray):Bool:=!decide (60<ws.length)&&ws.all fun w=>!decide (100<w.size)
def SLw (t:T) (j:Nat):A0b:=⟨[(3,.t (iv (j:Int))),(0,.t t)],[],0,19⟩
theorem D0m {α:Type} {p:α->Bool} {l:List α} {j:Nat} {x:α} (h:l[j]?=some x):(l.drop j).all p=(p x&&(l.drop (j+1)).all p):=by
 rw[List.drop_eq_getElem_cons (List.getElem?_eq_some_iff.1 h).1,(List.getElem?_eq_some_iff.1 h).2,List.all_cons]
theorem F6v {t:T} {ws:List ByteArray} (ht:IsS eStr t ws) (hl:ws.length<=2000000):A0v Tryz.prog (G q) 70 [t] (· = bv (ltW ws)):=by
 have l1:=ht.len
 obtain⟨R,hR⟩:∃R,R=ltW ws:=⟨_,rfl⟩
 rw[<-hR];unfold ltW at hR;refine D7b.call rfl ?_;(conv in C3k=>cbv);refine A0a A0z ?_;simp -implicitDefEqProofs;by_cases h0:60<ws.length
 ·have hb:(60:Int)<(ws.length:Int):=by omega
  rw[decide_eq_true h0,Bool.not_true,Bool.false_and]at hR;subst hR;refine A0a A0z ?_;simp -implicitDefEqProofs [l1,hb]
 ·have hb:¬(60:Int)<(ws.length:Int):=by omega
  rw[decide_eq_false h0,Bool.not_false,Bool.true_and]at hR;refine A0a A0z ?_;simp -implicitDefEqProofs [l1,hb];refine A0s (α:=Unit) (fun _=>⟨[],[],0,19⟩) (fun _=>R=true) (fun _=>rfl) ?_ ?_
  ·refine A0a A0z ?_;simp -implicitDefEqProofs;refine A0g ?_;refine A0t (SLw t) (fun j=>ws.length-j) (fun j=>j<=ws.length/\R=(ws.drop j).all fun w=>!decide (100<w.size)) 0 (fun _=>rfl) ⟨Nat.zero_le _,hR⟩ ?_ rfl ?_
   ·exact A0d (by simp -implicitDefEqProofs [SLw])
   rintro j ⟨hj,heq⟩;unfold SLw;by_cases hlt:j<ws.length
   ·obtain⟨w,hw⟩:∃w,ws[j]?=some w:=⟨_,List.getElem?_eq_getElem hlt⟩
    have i1:A1b 1 (.t t) (.t (iv (j:Int)))=_:=ht.iaddr hw .i64;have ld:∀(x:ByteArray) (r:List T) (H:Heap),A0e false 1 H (.t (.pt (eStr.enc x++r)))=some (.t (sv x)):=fun _ _ _=>rfl;have e1:IntKind.i64.wrap ((j:Int)+1)=((j+1:Nat):Int):=A0j (by omega) (by omega);rw[D0m hw]at heq;refine A1p ?_;refine A0c A0z ?_;simp -implicitDefEqProofs [l1,hlt];refine⟨rfl,?_⟩;refine A1p ?_;refine A0g ?_;by_cases h1:100<w.size
    ·have hb:(100:Int)<(w.size:Int):=by omega
     rw[decide_eq_true h1,Bool.not_true,Bool.false_and]at heq;subst heq;refine A0c A0z ?_;simp -implicitDefEqProofs [i1,ld,hb,A5u]
    ·have hb:¬(100:Int)<(w.size:Int):=by omega
     rw[decide_eq_false h1,Bool.not_false,Bool.true_and]at heq;refine A0c A0z ?_;simp -implicitDefEqProofs [i1,ld,hb];refine⟨rfl,?_⟩;refine A0c A0z ?_;simp -implicitDefEqProofs [e1];exact Abs.Next.mk (j+1) ⟨⟨by omega,heq⟩,by omega⟩ (A0d (by simp -implicitDefEqProofs))
   ·rw[List.drop_of_length_le (by omega)]at heq;refine A1p ?_;refine A0c A0z ?_;simp -implicitDefEqProofs [l1,hlt];exact Abs.Next.mk () heq (A0d (by simp -implicitDefEqProofs))
  ·rintro _ rfl;refine A0c A0z ?_;simp -implicitDefEqProofs
noncomputable def gLW:List T->Option T:=g1 (tSl eStr) fun ws=>if ws.length<=2000000 then some (bv (ltW ws))else none
theorem hLW:GOK Tryz.prog (G q) 70 gLW:=A4c fun a l r ha hr=>by
 split at hr
 ·rename_i h;injection hr with hr;subst hr;exact F6v ha h
 ·cases hr
theorem G5a {t:T} {l:List ByteArray} (ht:IsS eStr t l) (hl:l.length<=2000000):gLW [t]=some (bv (ltW l)):=by
 show g1 _ _ _=_;rw[A5l (τ:=tSl eStr) ht,if_pos hl]
def ltD (m:Nat) (d:Dv):Bool:=decide (sizD d m<=m)
def ltI (x:It):Bool:=!decide (100<x.id.size)&&(ltW x.words&&(!decide (270<x.decs.length)&&(ltD 80 x.gold&&x.decs.all fun d=>!decide (100<d.p.name.size))))
def SLi (I:Row) (j:Nat):A0b:=⟨[(3,.t (iv (j:Int))),(1,.ptr 0 0)],[(0,I)],1,42⟩
theorem F6w (c:IC) (hs:SmI c.x):A0v Tryz.prog (G q) 38 [.ag c.cs] (· = bv (ltI c.x)):=by
 obtain⟨tw,td,k,nm,f,t,tk,ks,ecs,_,_,hw,hd,hgD⟩:=A1g c.ok;have ld:=hd.len;have hdl:=hs.len;have eW:=G5a hw hs.words.1;have eG:=D3p hgD (m:=80) (by omega);have eG:C7j [.ag [iv k,sv nm,iv f,iv t,tk],.v (.int .i64 80)]=some (bv (ltD 80 c.x.gold)):=eG
 obtain⟨id,hid⟩:∃id,id=c.x.id:=⟨_,rfl⟩
 have cdx:A0q (.t (.ag c.cs))=some [.t (sv id),.t tw,.t (iv c.x.state),.t td,.t (iv k),.t (sv nm),.t (iv f),.t (iv t),.t tk]:=by rw[ecs,hid];rfl
 obtain⟨Y,hY⟩:∃Y,Y=iRow id tw c.x.state td k nm f t tk:=⟨_,rfl⟩
 have y:=ldI id tw c.x.state td k nm f t tk (H:=[(0,Y)]) (b:=0) (by rw[hY];rfl);have C:Ctx Tryz.prog (G q) _:=(A0x.cons (hLW (q:=q)) (.cons (F7v (q:=q)) .nil)).ctx mixed
 obtain⟨R,hR⟩:∃R,R=ltI c.x:=⟨_,rfl⟩
 rw[<-hR];unfold ltI at hR;rw[<-hid]at hR;refine C3m.call rfl ?_;(conv in B2z=>cbv);refine A0a C ?_;simp -implicitDefEqProofs [cdx];rw[show Row.cells 28 [.t (sv id),.t tw,.t (iv c.x.state),.t td,.t (iv k),.t (sv nm),.t (iv f),.t (iv t),.t tk]=Y from hY.symm];have yg:=y.g;by_cases a1:100<id.size
 ·have hb:(100:Int)<(id.size:Int):=by omega
  rw[decide_eq_true a1,Bool.not_true,Bool.false_and]at hR;subst hR;refine A0a C ?_;simp -implicitDefEqProofs [y.l0,hb]
 have b1:¬(100:Int)<(id.size:Int):=by omega
 rw[decide_eq_false a1,Bool.not_false,Bool.true_and]at hR
 cases a2:ltW c.x.words with
 | false=>
  rw[a2,Bool.false_and]at hR;rw[a2]at eW;subst hR;refine A0a C ?_;simp -implicitDefEqProofs [y.l0,b1,y.l1,eW]
 | true=>
 rw[a2,Bool.true_and]at hR;rw[a2]at eW;by_cases a3:270<c.x.decs.length
 ·have hb:(270:Int)<(c.x.decs.length:Int):=by omega
  rw[decide_eq_true a3,Bool.not_true,Bool.false_and]at hR;subst hR;refine A0a C ?_;simp -implicitDefEqProofs [y.l0,b1,y.l1,eW,y.l3,ld,hb]
 have b3:¬(270:Int)<(c.x.decs.length:Int):=by omega
 rw[decide_eq_false a3,Bool.not_false,Bool.true_and]at hR
 cases a4:ltD 80 c.x.gold with
 | false=>
  rw[a4,Bool.false_and]at hR;rw[a4]at eG;subst hR;refine A0a C ?_;simp -implicitDefEqProofs [y.l0,b1,y.l1,eW,y.l3,ld,b3,yg,eG]
 | true=>
 rw[a4,Bool.true_and]at hR;rw[a4]at eG;refine A0a C ?_;simp -implicitDefEqProofs [y.l0,b1,y.l1,eW,y.l3,ld,b3,yg,eG];refine A0s (α:=Unit) (fun _=>⟨[],[],0,42⟩) (fun _=>R=true) (fun _=>rfl) ?_ ?_
 ·refine A0a C ?_;simp -implicitDefEqProofs;refine A0g ?_;refine A0t (SLi Y) (fun j=>c.x.decs.length-j) (fun j=>j<=c.x.decs.length/\R=(c.x.decs.drop j).all fun d=>!decide (100<d.p.name.size)) 0 (fun _=>rfl) ⟨Nat.zero_le _,hR⟩ ?_ rfl ?_
  ·exact A0d (by simp -implicitDefEqProofs [SLi])
  rintro j ⟨hj,heq⟩;unfold SLi;by_cases hlt:j<c.x.decs.length
  ·obtain⟨d,hdx⟩:∃d,c.x.decs[j]?=some d:=⟨_,List.getElem?_eq_getElem hlt⟩
   have i1:A1b 5 (.t td) (.t (iv (j:Int)))=_:=hd.iaddr hdx .i64;have ln:∀(r:List T) (H:Heap),A0e false 1 H (.t (.pt (eDc.enc d++r).tail))=some (.t (sv d.p.name)):=fun _ _=>rfl;have e1:IntKind.i64.wrap ((j:Int)+1)=((j+1:Nat):Int):=A0j (by omega) (by omega);rw[D0m hdx]at heq;refine A1p ?_;refine A0c C ?_;simp -implicitDefEqProofs [y.l3,ld,hlt];refine⟨rfl,?_⟩;refine A1p ?_;refine A0g ?_;by_cases h1:100<d.p.name.size
   ·have hb:(100:Int)<(d.p.name.size:Int):=by omega
    rw[decide_eq_true h1,Bool.not_true,Bool.false_and]at heq;subst heq;refine A0c C ?_;simp -implicitDefEqProofs [y.l3,i1,ln,hb,A5u]
   ·have hb:¬(100:Int)<(d.p.name.size:Int):=by omega
    rw[decide_eq_false h1,Bool.not_false,Bool.true_and]at heq;refine A0c C ?_;simp -implicitDefEqProofs [y.l3,i1,ln,hb];refine⟨rfl,?_⟩;refine A0c C ?_;simp -implicitDefEqProofs [e1];exact Abs.Next.mk (j+1) ⟨⟨by omega,heq⟩,by omega⟩ (A0d (by simp -implicitDefEqProofs))
  ·rw[List.drop_of_length_le (by omega)]at heq;refine A1p ?_;refine A0c C ?_;simp -implicitDefEqProofs [y.l3,ld,hlt];exact Abs.Next.mk () heq (A7z (by omega) (fun z hz=>by cases hz) (by simp -implicitDefEqProofs [under]))
 ·rintro _ rfl;refine A0c C ?_;simp -implicitDefEqProofs
noncomputable def gLI:List T->Option T:=g1 tIt fun c=>open Classical in if SmI c.x then some (bv (ltI c.x))else none
theorem hLI:GOK Tryz.prog (G q) 38 gLI:=A4c fun a c r ha hr=>by
 split at hr
 ·rename_i h;injection hr with hr;subst hr;obtain rfl:a = .ag c.cs:=ha;exact F6w c h
 ·cases hr
theorem D4z (c:IC) (h:SmI c.x):gLI [.ag c.cs]=some (bv (ltI c.x)):=by
 show g1 _ _ _=_;rw[A5l (τ:=tIt) (x:=c) rfl,if_pos h]
def ltX (n:Nat) (x:It):Bool:=ltI x && !(decide (8<n)&&(decide (2<x.words.length)||(decide (0<x.decs.length) || !ltD 4 x.gold)))
def ltB (b:Tb):Bool:=!decide (100<b.ver.size)&&(!decide (270<b.items.length)&&b.items.all fun x=>ltX b.items.length x)
def SLb (X:Row) (j:Nat):A0b:=⟨[(3,.t (iv (j:Int))),(1,.ptr 0 0)],[(0,X)],1,64⟩
theorem G5b {u:T} {l:List IC} (h:IsS eIC u l) {i:Nat} {c:IC} (hx:l[i]?=some c) {id:ByteArray} {tw td tk:T} {st k f t:Int} {nm:ByteArray} (ecs:c.cs=[sv id,tw,iv st,td,iv k,sv nm,iv f,iv t,tk]) :
  ∃r,A1b 9 (.t u) (.t (iv (i:Int)))=some (.t (.pt (sv id::tw::iv st::td::iv k::sv nm::iv f::iv t::tk::r))):=by
 have:=h.iaddr hx .i64;refine⟨rest eIC l i,?_⟩;have e:eIC.enc c=c.cs:=rfl;rw[e,ecs]at this;exact this
theorem F6x {ver:ByteArray} {u:T} {l:List IC} (hu:IsS eIC u l) (hs:SmB ver l):A0v Tryz.prog (G q) 35 [.ag [sv ver,u]] (· = bv (ltB ⟨ver,l.map IC.x⟩)):=by
 have cd:A0q (.t (.ag [sv ver,u]))=some [.t (sv ver),.t u]:=rfl;have lu:=hu.len;have hll:=hs.len
 obtain⟨X,hX⟩:∃X,X=bRow ver u:=⟨_,rfl⟩
 have z:=ldB (ver:=ver) (u:=u) (H:=[(0,X)]) (b:=0) (by rw[hX];rfl);have C:Ctx Tryz.prog (G q) _:=(A0x.cons (hLI (q:=q)) (.cons (F7v (q:=q)) .nil)).ctx mixed
 obtain⟨R,hR⟩:∃R,R=ltB ⟨ver,l.map IC.x⟩:=⟨_,rfl⟩
 rw[<-hR];unfold ltB at hR;simp only[List.length_map]at hR;refine D7c.call rfl ?_;(conv in C3l=>cbv);refine A0a C ?_;simp -implicitDefEqProofs [cd];rw[show Row.cells 39 [.t (sv ver),.t u]=X from hX.symm];by_cases a1:100<ver.size
 ·have hb:(100:Int)<(ver.size:Int):=by omega
  rw[decide_eq_true a1,Bool.not_true,Bool.false_and]at hR;subst hR;refine A0a C ?_;simp -implicitDefEqProofs [z.l0,hb]
 have b1:¬(100:Int)<(ver.size:Int):=by omega
 rw[decide_eq_false a1,Bool.not_false,Bool.true_and]at hR;by_cases a3:270<l.length
 ·have hb:(270:Int)<(l.length:Int):=by omega
  rw[decide_eq_true a3,Bool.not_true,Bool.false_and]at hR;subst hR;refine A0a C ?_;simp -implicitDefEqProofs [z.l0,b1,z.l1,lu,hb]
 have b3:¬(270:Int)<(l.length:Int):=by omega
 rw[decide_eq_false a3,Bool.not_false,Bool.true_and]at hR;refine A0a C ?_;simp -implicitDefEqProofs [z.l0,b1,z.l1,lu,b3];refine A0s (α:=Unit) (fun _=>⟨[],[],0,64⟩) (fun _=>R=true) (fun _=>rfl) ?_ ?_
 ·refine A0a C ?_;simp -implicitDefEqProofs;refine A0g ?_;refine A0t (SLb X) (fun j=>l.length-j) (fun j=>j<=l.length/\R=((l.map IC.x).drop j).all fun x=>ltX l.length x) 0 (fun _=>rfl) ⟨Nat.zero_le _,hR⟩ ?_ rfl ?_
  ·exact A0d (by simp -implicitDefEqProofs [SLb])
  rintro j ⟨hj,heq⟩;unfold SLb;by_cases hlt:j<l.length
  ·obtain⟨c,hc⟩:∃c,l[j]?=some c:=⟨_,List.getElem?_eq_getElem hlt⟩
   have hcx:(l.map IC.x)[j]?=some c.x:=by rw[List.getElem?_map,hc];rfl
   have hsc:=hs.items c (List.mem_of_getElem? hc);obtain⟨tw,td,k,nm,f,t,tk,ks,ecs,_,_,hw,hd,hgD⟩:=A1g c.ok;obtain⟨r,i1⟩:=G5b hu hc ecs
   have ld9:∀H:Heap,A0e true 9 H (.t (.pt (sv c.x.id::tw::iv c.x.state::td::iv k::sv nm::iv f::iv t::tk::r)))=some (.t (.ag c.cs)):=fun H=>by rw[ecs];rfl
   have lw:∀H:Heap,A0e false 1 H (.t (.pt (tw::iv c.x.state::td::iv k::sv nm::iv f::iv t::tk::r)))=some (.t tw):=fun H=>rfl;have ldd:∀H:Heap,A0e false 1 H (.t (.pt (td::iv k::sv nm::iv f::iv t::tk::r)))=some (.t td):=fun H=>rfl;have lg:∀H:Heap,A0e true 5 H (.t (.pt (iv k::sv nm::iv f::iv t::tk::r)))=some (.t (.ag [iv k,sv nm,iv f,iv t,tk])):=fun H=>rfl;have l1:=hw.len;have l2:=hd.len;have e1:IntKind.i64.wrap ((j:Int)+1)=((j+1:Nat):Int):=A0j (by omega) (by omega);have eI:=D4z c hsc;have eG:=D3p hgD (m:=4) (by omega);have eG:C7j [.ag [iv k,sv nm,iv f,iv t,tk],.v (.int .i64 4)]=some (bv (ltD 4 c.x.gold)):=eG;rw[D0m hcx]at heq;have hx:ltX l.length c.x=(ltI c.x && !(decide (8<l.length)&&(decide (2<c.x.words.length)||(decide (0<c.x.decs.length) || !ltD 4 c.x.gold)))):=rfl;rw[hx]at heq
   have step:R=(((l.map IC.x).drop (j+1)).all fun x=>ltX l.length x)->∀env,Abs.look env 3=some (.t (iv ((j+1:Nat):Int)))->Abs.look env 1=some (.ptr 0 0)->Abs.Next Tryz.prog (G q) 0 (SLb X) (fun a'=>(a'<=l.length/\R=((l.map IC.x).drop a').all fun x=>ltX l.length x)/\l.length-a'<l.length-j) ⟨env,[(0,X)],1,64⟩:=fun h env h3 h1=>by
    refine Abs.Next.mk (j+1) ⟨⟨by omega,h⟩,by omega⟩ (A0d fun z hz=>?_);simp only[SLb,List.mem_cons,List.not_mem_nil,or_false]at hz;rcases hz with rfl | rfl
    ·exact h3
    ·exact h1
   refine A1p ?_;refine A0c C ?_;simp -implicitDefEqProofs [z.l1,lu,hlt];refine⟨rfl,?_⟩;refine A1p ?_;refine A0g ?_
   cases a4:ltI c.x with
   | false=>
    rw[a4,Bool.false_and,Bool.false_and]at heq;rw[a4]at eI;subst heq;refine A0c C ?_;simp -implicitDefEqProofs [z.l1,i1,ld9,eI,A5u]
   | true=>
   rw[a4,Bool.true_and]at heq;rw[a4]at eI;by_cases a5:8<l.length
   rotate_left
   ·have b5:¬(8:Int)<(l.length:Int):=by omega
    rw[decide_eq_false a5,Bool.false_and,Bool.not_false,Bool.true_and]at heq;refine A0c C ?_;simp -implicitDefEqProofs [z.l1,i1,ld9,eI,lu,b5];refine⟨rfl,?_⟩;refine A0c C ?_;simp -implicitDefEqProofs [e1];exact step heq _ rfl rfl
   have b5:(8:Int)<(l.length:Int):=by omega
   rw[decide_eq_true a5,Bool.true_and]at heq;by_cases a6:2<c.x.words.length
   ·have b6:(2:Int)<(c.x.words.length:Int):=by omega
    rw[decide_eq_true a6,Bool.true_or,Bool.not_true,Bool.false_and]at heq;subst heq;refine A0c C ?_;simp -implicitDefEqProofs [z.l1,i1,ld9,eI,lu,b5,lw,l1,b6,A5u]
   have b6:¬(2:Int)<(c.x.words.length:Int):=by omega
   rw[decide_eq_false a6,Bool.false_or]at heq;by_cases a7:0<c.x.decs.length
   ·have b7:(0:Int)<(c.x.decs.length:Int):=by omega
    rw[decide_eq_true a7,Bool.true_or,Bool.not_true,Bool.false_and]at heq;subst heq;refine A0c C ?_;simp -implicitDefEqProofs [z.l1,i1,ld9,eI,lu,b5,lw,l1,b6,ldd,l2,a7,b7,A5u]
   have b7:¬(0:Int)<(c.x.decs.length:Int):=by omega
   rw[decide_eq_false a7,Bool.false_or]at heq
   cases a8:ltD 4 c.x.gold with
   | false=>
    rw[a8,Bool.not_false,Bool.not_true,Bool.false_and]at heq;rw[a8]at eG;subst heq;refine A0c C ?_;simp -implicitDefEqProofs [z.l1,i1,ld9,eI,lu,b5,lw,l1,b6,ldd,l2,a7,b7,lg,eG,A5u]
   | true=>
    rw[a8,Bool.not_true,Bool.not_false,Bool.true_and]at heq;rw[a8]at eG;refine A0c C ?_;simp -implicitDefEqProofs [z.l1,i1,ld9,eI,lu,b5,lw,l1,b6,ldd,l2,a7,b7,lg,eG];refine⟨rfl,?_⟩;refine A0c C ?_;simp -implicitDefEqProofs [e1];exact step heq _ rfl rfl
  ·rw[List.drop_of_length_le (by rw[List.length_map];omega)]at heq;refine A1p ?_;refine A0c C ?_;simp -implicitDefEqProofs [z.l1,lu,hlt];exact Abs.Next.mk () heq (A7z (by omega) (fun z hz=>by cases hz) (by simp -implicitDefEqProofs [under]))
 ·rintro _ rfl;refine A0c C ?_;simp -implicitDefEqProofs
noncomputable def gLB:List T->Option T:=g1 tTb fun b=>open Classical in if SmB b.ver b.items then some (bv (ltB b.tb))else none
theorem hLB:GOK Tryz.prog (G q) 35 gLB:=A4c fun a b r ha hr=>by
 split at hr
 ·rename_i h;injection hr with hr;subst hr;obtain⟨u,rfl,hu⟩:=ha;exact F6x hu h
 ·cases hr
theorem G5c {ver:ByteArray} {u:T} {l:List IC} (hu:IsS eIC u l) (hs:SmB ver l):gLB [.ag [sv ver,u]]=some (bv (ltB ⟨ver,l.map IC.x⟩)):=by
 show g1 _ _ _=_;rw[A5l (τ:=tTb) (x:=⟨ver,l⟩) ⟨u,rfl,hu⟩,if_pos hs];rfl
theorem TBI.lt {cs:List T} (b:TBI cs):gLB [.ag cs]=some (bv (ltB b.tb)):=by
 have:=G5c b.hu b.sm;rw[<-b.e]at this;exact this
end Go.Proofs.YtmplckgbeaifkaaGreatDoor
