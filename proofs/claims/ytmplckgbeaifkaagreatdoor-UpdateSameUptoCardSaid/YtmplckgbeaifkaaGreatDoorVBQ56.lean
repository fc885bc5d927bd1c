/-
 Auxiliary facts. No statement of the program stands here.
-/
import Derived.Test.YtmplckgbeaifkaaGreatDoorVBQ51
import Derived.Test.YtmplckgbeaifkaaGreatDoorVBQ14
import Derived.Test.YtmplckgbeaifkaaGreatDoorVBQ42
namespace Go.Proofs.YtmplckgbeaifkaaGreatDoor
set_option linter.unusedSimpArgs false
set_option linter.unusedVariables false
open Go Go.Abs
variable {q : Gl}
def SD1 (td tq:T) (j:Nat):A0b:=⟨[(6,.t (iv (j:Int))),(5,.t tq),(1,.t td)],[],0,38⟩
def SD2 (td tq:T) (j:Nat) (a:Nat×Bool):A0b:=⟨[(8,.t (iv (a.1:Int))),(7,.t (bv a.2)),(6,.t (iv (j:Int))),(5,.t tq),(1,.t td)],[],0,38⟩
def A8a (l:List Dv) (ds:List Dc):Bool:=ds.all fun d=>decide (d.p∈disc l)
set_option maxHeartbeats 4000000 in
theorem B6j {tl td:T} {l:List Dv} {ds:List Dc} (hl:IsK tl l) (hd:IsS eDc td ds) (hs:SmK l) (hds:ds.length<=200000):A0w Tryz.prog (G q) 32 [tl,td] (· = bv (A8a l ds)):=by
 have C:Ctx Tryz.prog (G q) _:=(A0y.cons (hDsc (q:=q)) .nil).ctx mixed;have eD:=E7q hl hs;have hdl:=D4a hs;have l1:=hd.len
 obtain⟨tq,htq⟩:∃tq,tq=A1g ePr (disc l):=⟨_,rfl⟩
 have hq:IsS ePr tq (disc l):=by rw[htq];exact IsS.tree _ _
 rw[<-htq]at eD;have l2:=hq.len
 obtain⟨R,hR⟩:∃R,R=A8a l ds:=⟨_,rfl⟩
 rw[<-hR];refine B5a.call rfl ?_;unfold A7u;refine A0a C ?_;simp -implicitDefEqProofs;refine A0a C ?_;simp -implicitDefEqProofs [eD];refine A0o (α:=Unit) (fun _=>⟨[],[],0,38⟩) (fun _=>R=true) (fun _=>rfl) ?_ ?_
 ·refine A0a C ?_;simp -implicitDefEqProofs;refine A0f ?_;refine A0k (SD1 td tq) (fun j=>ds.length-j) (fun j=>j<=ds.length/\R=A8a l (ds.drop j)) 0 (fun _=>rfl) ⟨Nat.zero_le _,hR⟩ ?_ rfl ?_
  ·refine A0d ?_;simp -implicitDefEqProofs [SD1]
  rintro j ⟨hj,heq⟩;by_cases hlt:j<ds.length
  ·obtain⟨d,hdx⟩:∃d,ds[j]?=some d:=⟨_,List.getElem?_eq_getElem hlt⟩
   obtain⟨pp,i1,_,ld4,_⟩:=B7u hd hdx;simp only[List.drop_zero]at ld4;have e1:IntKind.i64.wrap ((j:Int)+1)=((j+1:Nat):Int):=A0h (by omega) (by omega)
   have hdr:A8a l (ds.drop j)=(decide (d.p∈disc l)&&A8a l (ds.drop (j+1))):=by
    rw[List.drop_eq_getElem_cons hlt,(List.getElem?_eq_some_iff.1 hdx).2];rfl
   rw[hdr]at heq;refine A3m ?_;refine A0c C ?_;simp -implicitDefEqProofs [SD1,l1,hlt];refine⟨rfl,?_⟩;refine A0o (α:=Unit) (fun _=>⟨[(6,.t (iv (j:Int))),(5,.t tq),(1,.t td)],[],0,38⟩) (fun _=>d.p∈disc l) (fun _=>rfl) ?_ ?_
   ·refine A0f ?_;refine A0a C ?_;simp -implicitDefEqProofs;refine A0o (α:=Unit) (fun _=>⟨[(7,.t (bv (decide (d.p∈disc l)))),(6,.t (iv (j:Int))),(5,.t tq),(1,.t td)],[],0,38⟩) (fun _=>True) (fun _=>rfl) ?_ ?_
    ·refine A0a C ?_;simp -implicitDefEqProofs;refine A0f ?_;refine A0k (SD2 td tq j) (fun a=>(disc l).length-a.1) (fun a=>a.1<=(disc l).length/\a.2=decide (d.p∈(disc l).take a.1)) (0,false) (fun _=>rfl) ⟨Nat.zero_le _,by simp⟩ ?_ rfl ?_
     ·refine A0d ?_;simp -implicitDefEqProofs [SD2]
     rintro⟨i,b⟩ ⟨hi,hb⟩;simp only at hi hb;by_cases hlt2:i<(disc l).length
     ·obtain⟨x,hx⟩:∃x,(disc l)[i]?=some x:=⟨_,List.getElem?_eq_getElem hlt2⟩
      have ix:A1o 4 (.t tq) (.t (iv (i:Int)))=_:=hq.iaddr hx .i64
      have ldx:∀H:Heap,A0g true 4 H (.t (.pt (ePr.enc x++rest ePr (disc l) i)))=some (.t (.ag (ePr.enc x))):=fun _=>by
       simp only[A0g,if_true];rw[if_pos (by simp[ePr])];rfl
      have eq:=C2b x d.p;have e2:IntKind.i64.wrap ((i:Int)+1)=((i+1:Nat):Int):=A0h (by omega) (by omega)
      have hb2:decide (d.p∈(disc l).take (i+1))=(b||decide (x=d.p)):=by
       rw[hb,Bool.eq_iff_iff,List.take_add_one,hx];simp only[decide_eq_true_iff,Bool.or_eq_true,List.mem_append,Option.toList_some,List.mem_singleton];exact⟨fun h=>h.imp (fun x=>x) Eq.symm,fun h=>h.imp (fun x=>x) Eq.symm⟩
      cases b with
      | true=>
       refine A0c C ?_;simp -implicitDefEqProofs [SD2,l2,hlt2,e2];refine Abs.Next.mk (i+1,true) ⟨⟨by show i+1<=_;omega,by rw[hb2];rfl⟩,by show(disc l).length-(i+1)<(disc l).length-i;omega⟩ ?_;exact A0d (by simp -implicitDefEqProofs [SD2])
      | false=>
       refine A0c C ?_;simp -implicitDefEqProofs [SD2,l2,hlt2,ix,ldx,i1,ld4,eq,e2];refine Abs.Next.mk (i+1,decide (x=d.p)) ⟨⟨by show i+1<=_;omega,by rw[hb2];rfl⟩,by show(disc l).length-(i+1)<(disc l).length-i;omega⟩ ?_;exact A0d (by simp -implicitDefEqProofs [SD2])
     ·rw[List.take_of_length_le (by omega)]at hb;refine A0c C ?_;simp -implicitDefEqProofs [SD2,l2,hlt2];refine Abs.Next.mk () trivial ?_;exact A0d (by simp -implicitDefEqProofs [hb])
    rintro _ _;by_cases hin:d.p∈disc l
    ·rw[decide_eq_true hin];refine A0c C ?_;simp -implicitDefEqProofs;refine Abs.Next.mk () hin ?_;exact A0d (by simp -implicitDefEqProofs)
    ·have hR:R=false:=by rw[heq,decide_eq_false hin];rfl
     rw[decide_eq_false hin];refine A0c C ?_;simp -implicitDefEqProofs [hR]
   rintro _ hin;rw[decide_eq_true hin,Bool.true_and]at heq;refine A0c C ?_;simp -implicitDefEqProofs [e1];refine Abs.Next.mk (j+1) ⟨⟨by omega,heq⟩,by omega⟩ ?_;exact A0d (by simp -implicitDefEqProofs [SD1])
  ·have hR:R=true:=by rw[heq,List.drop_of_length_le (by omega)];rfl
   refine A0c C ?_;simp -implicitDefEqProofs [SD1,l1,hlt];exact Abs.Next.mk () hR (A0d fun q hq=>by cases hq)
 rintro _ hR0;refine A0c C ?_;simp -implicitDefEqProofs [hR0]
theorem C4l {n:Int}:∀{r seen:List Dc},A7y n seen r=0->r.Pairwise (fun a b=>a.p≠b.p)/\∀d∈r,∀y∈seen,y.p≠d.p
 | [],seen,_=>⟨List.Pairwise.nil,fun d hd=>by simp at hd⟩
 | d::r,seen,h=>by
  rw[A7y]at h;by_cases h1:chkP d.p n=0
  ·rw[if_neg (fun e=>e h1)]at h;split at h
   ·cases h
   ·rename_i hany;obtain⟨g1,g2⟩:=C4l h;have hs:∀y∈seen,y.p≠d.p:=fun y hy e=>hany (List.any_eq_true.2 ⟨y,hy,decide_eq_true e⟩);refine⟨List.pairwise_cons.2 ⟨fun b hb=>g2 b hb d (by simp),g1⟩,fun x hx y hy=>?_⟩;rcases List.mem_cons.1 hx with rfl | hx
    ·exact hs y hy
    ·exact g2 x hx y (by simp[hy])
  ·rw[if_pos h1]at h;exact absurd h h1
theorem E8j {x:It} (h:A9x x=true):x.decs.Pairwise fun a b=>a.p≠b.p:=by
 unfold A9x at h;rw[Bool.and_eq_true,decide_eq_true_iff]at h;have h:=h.2;unfold chkT at h;split at h
 ·cases h
 split at h
 ·cases h
 rw[chkL]at h;split at h
 ·cases h
 split at h
 ·cases h
 by_cases hr:chkR x=0
 ·unfold chkR at hr;split at hr
  ·rename_i h1;exact absurd hr h1
  split at hr
  ·cases hr
  split at hr
  ·cases hr
  split at hr
  ·rename_i h1;exact absurd hr h1
  ·rename_i h1
   have h1:A7y x.words.length [] x.decs=0:=by
    by_cases e:A7y x.words.length [] x.decs=0
    ·exact e
    ·exact absurd e h1
   exact(C4l h1).1
 ·rw[if_pos hr]at h;exact absurd h hr
noncomputable def gDin:List T->Option T:=g2 tK (tSl eDc) fun l ds=>open Classical in if SmK l/\ds.length<=200000 then some (bv (A8a l ds))else none
theorem hDin:GOK Tryz.prog (G q) 32 gDin:=A4e fun a b l ds r ha hb hr=>by
 split at hr
 ·rename_i h;injection hr with hr;subst hr;exact B6j ha hb h.1 h.2
 ·cases hr
theorem F6g {tl td:T} {l:List Dv} {ds:List Dc} (hl:IsK tl l) (hd:IsS eDc td ds) (hs:SmK l) (hds:ds.length<=200000):gDin [tl,td]=some (bv (A8a l ds)):=by
 show g2 _ _ _ _=_;rw[A4u (τ:=tK) (σ:=tSl eDc) hl hd,if_pos ⟨hs,hds⟩]
set_option maxHeartbeats 8000000 in
theorem D1e (c:IC) {tl:T} {m:List DC} (hm:IsS eDC tl m) (hs:SmI c.x) (hds:c.x.decs.length<=200000):A0w Tryz.prog (G q) 6 [.ag c.cs,tl] (· = bv true):=by
 have eV:=C7a c hs;have htl:=hm.isK;have eF:=C1n htl;have eX:gEx []=some (bv true):=rfl;have lm:=hm.len;have C:Ctx Tryz.prog (G q) _:=(A0y.cons (hVal (q:=q)) (.cons (hFew (q:=q)) (.cons (E1e (q:=q)) (.cons (F1u (q:=q)) (.cons (hRem (q:=q)) (.cons (D2w (q:=q)) (.cons (hDin (q:=q)) (.cons (E7w (q:=q)) (.cons (E7a (q:=q)) .nil))))))))).ctx mixed;obtain⟨tw,td,k,nm,f,t,tk,ks,ecs,hg,hk,hw,hd,hgD⟩:=A1a c.ok;rw[ecs]at eV ⊢;have cd:=A3c c.x.id tw c.x.state td k nm f t tk
 obtain⟨X,hX⟩:∃X,X=iRow c.x.id tw c.x.state td k nm f t tk:=⟨_,rfl⟩
 have z:=ldI c.x.id tw c.x.state td k nm f t tk (H:=[(0,X)]) (b:=0) (by rw[hX];rfl);refine B8a.call rfl ?_;unfold A9w;refine A0a C ?_;simp -implicitDefEqProofs [cd];rw[show Row.cells 28 [.t (sv c.x.id),.t tw,.t (iv c.x.state),.t td,.t (iv k),.t (sv nm),.t (iv f),.t (iv t),.t tk]=X from hX.symm]
 cases hv:A9x c.x with
 | false=>
  rw[hv]at eV;refine A0a C ?_;simp -implicitDefEqProofs [z.a,eV,eX]
 | true=>
 rw[hv]at eV
 cases hf:fewD 0 (dvs m)with
 | false=>
  rw[show fewD 0 (m.map DC.d)=false from hf]at eF;refine A0a C ?_;simp -implicitDefEqProofs [z.a,eV,eF,eX]
 | true=>
 rw[show fewD 0 (m.map DC.d)=true from hf]at eF;have hsm:=D0z hf;have eA:=B8t htl hsm
 cases hasc:ascD (dvs m)with
 | false=>
  rw[show ascD (m.map DC.d)=false from hasc]at eA;refine A0a C ?_;simp -implicitDefEqProofs [z.a,eV,eF,eA,eX]
 | true=>
 rw[show ascD (m.map DC.d)=true from hasc]at eA;by_cases h1:c.x.state=1
 rotate_left
 ·have b1:(c.x.state != 1)=true:=by simpa using h1
  refine A0a C ?_;simp -implicitDefEqProofs [z.a,eV,eF,eA,z.l2,b1,eX]
 have b1:(c.x.state != 1)=false:=by simpa using h1
 refine A0a C ?_;simp -implicitDefEqProofs [z.a,eV,eF,eA,z.l2,b1];have eR:=C6w htl hd hsm (by omega);have hRt:=IsS.tree eInt (natI (remD (dvs m) c.x.decs));have lr:=hRt.len;rw[natI_len]at lr
 obtain⟨rt,hrt⟩:∃rt,rt=A1g eInt (natI (remD (dvs m) c.x.decs)):=⟨_,rfl⟩
 rw[<-hrt]at hRt lr;rw[show A1g eInt (natI (remD (m.map DC.d) c.x.decs))=rt from hrt.symm]at eR;refine A0a C ?_;simp -implicitDefEqProofs [z.l3,eR];by_cases h2:(remD (dvs m) c.x.decs).length=1
 rotate_left
 ·have hb:(((remD (dvs m) c.x.decs).length:Int) != 1)=true:=by simpa using (by omega:¬((remD (dvs m) c.x.decs).length:Int)=1)
  generalize (remD (dvs m) c.x.decs).length=rl at *;refine A0a C ?_;simp -implicitDefEqProofs [lr,hb,eX]
 obtain⟨n,hn⟩:∃n,remD (dvs m) c.x.decs=[n]:=List.length_eq_one_iff.1 h2;obtain⟨d,hd1,_⟩:=C5b (l:=dvs m) (ds:=c.x.decs) (n:=n) (by rw[hn];simp)
 obtain⟨g,hg1⟩:∃g,m[n]?=some g:=by
  rw[List.getElem?_map]at hd1
  cases e:m[n]? with
  | none=>rw[e]at hd1;cases hd1
  | some g=>exact⟨g,rfl⟩
 obtain⟨p2,i2,g2⟩:=E7s hm hg1;have hnl:n<m.length:=(List.getElem?_eq_some_iff.1 hg1).1
 have hR0:(natI (remD (dvs m) c.x.decs))[0]?=some (n:Int):=by rw[hn];rfl
 have i0:A1o 1 (.t rt) (.t (iv ((0:Nat):Int)))=_:=hRt.iaddr hR0 .i64;have i0:A1o 1 (.t rt) (.t (.v (.int .i64 0)))=_:=i0;have li:∀H:Heap,A0g false 1 H (.t (.pt (eInt.enc (n:Int)++rest eInt (natI (remD (dvs m) c.x.decs)) 0)))=some (.t (iv (n:Int))):=fun _=>rfl;rw[h2]at lr;have lr:A7k (.t rt)=some (.t (.v (.int .i64 1))):=lr
 have bl:¬m.length<=n:=by omega
 have bn:¬(n:Int)<0:=by omega
 have gn:=hsm.kid (List.mem_of_getElem? (i:=n) (show(dvs m)[n]?=some g.d by rw[List.getElem?_map,hg1];rfl));have eC:=A9r g.ok hgD (by omega) hs.gold.2.2;by_cases h3:cmpD g.d c.x.gold=0
 rotate_left
 ·have hb:(cmpD g.d c.x.gold != 0)=true:=by simpa using h3
  refine A0a C ?_;simp -implicitDefEqProofs [lr,i0,li,bn,lm,bl,i2,g2,z.g,eC,hb,eX]
 rw[h3]at eC;have eI:=F6g htl hd hsm hds
 cases hai:A8a (dvs m) c.x.decs with
 | false=>
  rw[show A8a (m.map DC.d) c.x.decs=false from hai]at eI;refine A0a C ?_;simp -implicitDefEqProofs [lr,i0,li,bn,lm,bl,i2,g2,z.g,eC,z.l3,eI,eX]
 | true=>
 rw[show A8a (m.map DC.d) c.x.decs=true from hai]at eI
 have hgd:(dvs m)[n]?=some c.x.gold:=by rw[List.getElem?_map,hg1,<-B0q.1 h3];rfl
 have hone:oneL (dvs m) c.x.decs=some c.x.gold:=by unfold oneL;rw[hn];exact hgd
 obtain⟨hkp,hsame⟩:=E2u h1 hone (fun y hy=>of_decide_eq_true (List.all_eq_true.1 hai y hy)) (E8j hv);have eP:=B3i c hm ⟨hsm,hds⟩;unfold repT B1n at eP;rw[if_pos hasc,hkp,Nat.sub_self]at eP
 obtain⟨y,hy⟩:∃y,y=C6x c m:=⟨_,rfl⟩
 have eS:=D0r c y (by rw[hy];exact hsame.symm) hs.e
 have hyc:repC c m=y.cs:=by rw[hy];rfl
 obtain⟨tw',td',k',nm',f',t',tk',ks',ecs',_⟩:=A1a y.ok;rw[hyc,ecs',ecs]at eP;rw[ecs',ecs]at eS;have s1:=sI9 y.x.id tw' y.x.state td' k' nm' f' t' tk' [(0,X)] 1 [.t (.v (.string ⟨#[]⟩)),.t (.v (.slice none 0 0)),.t (.v (.int .i64 0)),.t (.v (.slice none 0 0)),.t (.v (.int .i64 0)),.t (.v (.string ⟨#[]⟩)),.t (.v (.int .i64 0)),.t (.v (.int .i64 0)),.t (.v (.slice none 0 0))] rfl
 obtain⟨Y,hY⟩:∃Y,Y=iRow y.x.id tw' y.x.state td' k' nm' f' t' tk':=⟨_,rfl⟩
 rw[<-hY]at s1;have z2:=ldI c.x.id tw c.x.state td k nm f t tk (H:=[(1,Y),(0,X)]) (b:=0) (by rw[hX];rfl);have w1:=ldI y.x.id tw' y.x.state td' k' nm' f' t' tk' (H:=[(1,Y),(0,X)]) (b:=1) (by rw[hY];rfl);have eP:gRep [.ag [sv c.x.id,tw,iv c.x.state,td,iv k,sv nm,iv f,iv t,tk],tl]=some (.tu [.ag [sv y.x.id,tw',iv y.x.state,td',iv k',sv nm',iv f',iv t',tk'],.v (.int .i64 0),iv 0]):=eP;refine A0a C ?_;simp -implicitDefEqProofs [lr,i0,li,bn,lm,bl,i2,g2,z.g,eC,z.l3,eI];refine A0a C ?_;simp -implicitDefEqProofs [z.a,eP,s1];refine A0c C ?_;simp -implicitDefEqProofs [z2.a,w1.a,eS,eX]
end Go.Proofs.YtmplckgbeaifkaaGreatDoor
