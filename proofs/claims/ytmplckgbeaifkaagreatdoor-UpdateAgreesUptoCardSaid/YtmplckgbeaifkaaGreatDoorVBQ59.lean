/-
 Auxiliary facts. No statement of the program stands here.
-/
import Derived.Test.YtmplckgbeaifkaaGreatDoorVBQ51
import Derived.Test.YtmplckgbeaifkaaGreatDoorVBQ57
import Derived.Test.YtmplckgbeaifkaaGreatDoorVBQ38
namespace Go.Proofs.YtmplckgbeaifkaaGreatDoor
set_option linter.unusedSimpArgs false
set_option linter.unusedVariables false
open Go Go.Abs
variable {q : Gl}
theorem C7d {l:List Dv}:∀{r out:List Dc},∀d∈keep l out r,d∈out\/d∈r
 | [],out,d,h=>.inl h
 | x::r,out,d,h=>by
  rw[keep]at h;split at h
  ·rcases C7d d h with h | h
   ·rcases List.mem_append.1 h with h | h
    ·exact .inl h
    ·rw[List.mem_singleton.1 h];exact .inr (by simp)
   ·exact .inr (by simp[h])
  ·rcases C7d d h with h | h
   ·exact .inl h
   ·exact .inr (by simp[h])
theorem E8m:Wd A2c:=⟨by simp[A2c,A8n,A6k];decide,by simp[A2c,IntD,IntK],by decide⟩
theorem F2a (c:IC) (m:List DC) (hc:SmI c.x) (hm:∀r∈m,Wd r.d):SmI (repI c.x (dvs m)):=by
 rw[A9l];refine⟨hc.words,?_,fun d hd=>?_,?_,hc.id⟩
 ·have:=A8t (dvs m) c.x.decs;have:=hc.len;show(keep _ _ _).length<=_;omega
 ·rcases C7d d hd with h | h
  ·cases h
  ·exact hc.decs d h
 ·show Wd (A9z c m).d;unfold A9z;split
  ·cases ho:oneC m (keep (dvs m) [] c.x.decs)with
   | none=>exact E8m
   | some g=>
    unfold oneC at ho;split at ho
    ·exact hm g (List.mem_of_getElem? ho)
    ·cases ho
  ·exact E8m
def SAg (X Y:Row) (tl:T) (j:Nat):A0b:=⟨[(8,.t (iv (j:Int))),(5,.ptr 1 0),(2,.ptr 0 0),(1,.t tl)],[(1,Y),(0,X)],2,129⟩
theorem F9m {ds:List Dc} {g:Dv} (h:agr ds g=true) {d:Dc} (hd:d∈ds):holds g d.p=d.yes:=by
 have:=List.all_eq_true.1 h d hd;simpa using this
theorem E8n (c:IC) (m:List DC):(repI c.x (dvs m)).decs=keep (dvs m) [] c.x.decs:=by rw[A9l]
theorem F6h (c:IC) (m:List DC):(repI c.x (dvs m)).id=c.x.id:=by rw[A9l]
set_option maxHeartbeats 8000000 in
theorem C2f (c:IC) {tl:T} {m:List DC} (hm:IsS eDC tl m) (hs:SmI c.x) (hds:c.x.decs.length<=200000) (hwm:∀r∈m,Wd r.d):A0w Tryz.prog (G q) 7 [.ag c.cs,tl] (· = bv true):=by
 have eV:=C7a c hs;have htl:=hm.isK;have eF:=C1n htl;have eX:gEx []=some (bv true):=rfl;have lm:=hm.len;have C:Ctx Tryz.prog (G q) _:=(A0y.cons (hVal (q:=q)) (.cons (hFew (q:=q)) (.cons (E1e (q:=q)) (.cons (F1u (q:=q)) (.cons (hRem (q:=q)) (.cons (F8t (q:=q)) (.cons (F8s (q:=q)) (.cons (E7w (q:=q)) (.cons (E7a (q:=q)) .nil))))))))).ctx mixed;obtain⟨tw,td,k,nm,f,t,tk,ks,ecs,hg,hk,hw,hd,hgD⟩:=A1a c.ok;rw[ecs]at eV ⊢;have cd:=A3c c.x.id tw c.x.state td k nm f t tk
 obtain⟨X,hX⟩:∃X,X=iRow c.x.id tw c.x.state td k nm f t tk:=⟨_,rfl⟩
 have z:=ldI c.x.id tw c.x.state td k nm f t tk (H:=[(0,X)]) (b:=0) (by rw[hX];rfl);refine B4w.call rfl ?_;unfold A7s;refine A0a C ?_;simp -implicitDefEqProofs [cd];rw[show Row.cells 28 [.t (sv c.x.id),.t tw,.t (iv c.x.state),.t td,.t (iv k),.t (sv nm),.t (iv f),.t (iv t),.t tk]=X from hX.symm]
 cases hv:A9x c.x with
 | false=>
  rw[hv]at eV;refine A0a C ?_;simp -implicitDefEqProofs [z.a,eV,eX]
 | true=>
 rw[hv]at eV
 cases hf:fewD 0 (dvs m)with
 | false=>
  rw[show fewD 0 (m.map DC.d)=false from hf]at eF;refine A0a C ?_;simp -implicitDefEqProofs [z.a,eV,eF,eX]
 | true=>
 rw[show fewD 0 (m.map DC.d)=true from hf]at eF;have hsm:=D0z hf;have eA:=B8t htl hsm
 cases hasc:ascD (dvs m)with
 | false=>
  rw[show ascD (m.map DC.d)=false from hasc]at eA;refine A0a C ?_;simp -implicitDefEqProofs [z.a,eV,eF,eA,eX]
 | true=>
 rw[show ascD (m.map DC.d)=true from hasc]at eA;refine A0a C ?_;simp -implicitDefEqProofs [z.a,eV,eF,eA];have eP:=B3i c hm ⟨hsm,hds⟩;unfold repT B1n at eP;rw[if_pos hasc]at eP
 obtain⟨y,hy⟩:∃y,y=C6x c m:=⟨_,rfl⟩
 have hyx:y.x=repI c.x (dvs m):=by rw[hy];rfl
 have hyc:repC c m=y.cs:=by rw[hy];rfl
 have hyd:y.x.decs=keep (dvs m) [] c.x.decs:=by rw[hyx,E8n]
 have hyi:y.x.id=c.x.id:=by rw[hyx,F6h]
 have hkl:=A8t (dvs m) c.x.decs
 have hysm:SmI y.x:=by rw[hyx];exact F2a c m hs hwm
 have hydl:y.x.decs.length<=200000:=by rw[hyd];omega
 have eVy:=C7a y hysm;have eP2:=B3i y hm ⟨hsm,hydl⟩;unfold repT B1n at eP2;rw[if_pos hasc]at eP2
 obtain⟨w,hw0⟩:∃w,w=C6x y m:=⟨_,rfl⟩
 have hwx:w.x=y.x:=by rw[hw0];show repI y.x (dvs m)=y.x;rw[hyx,D8n]
 have hwc:repC y m=w.cs:=by rw[hw0];rfl
 have eS:=D0r y w hwx.symm hysm.e
 have hkk:keep (dvs m) [] y.x.decs=y.x.decs:=by rw[hyd,B1v]
 rw[hkk,Nat.sub_self,hwc]at eP2;rw[hyc,<-hyd]at eP;obtain⟨tw',td',k',nm',f',t',tk',ks',ecs',hg',hk',hw',hd',hgD'⟩:=A1a y.ok;obtain⟨tw2,td2,k2,nm2,f2,t2,tk2,ks2,ecs2,_⟩:=A1a w.ok;rw[ecs',ecs]at eP;rw[ecs',ecs2]at eP2 eS;rw[ecs']at eVy;have ld:=hd.len;have ld':=hd'.len
 have hgn:nodD y.x.gold<=10000:=by rw[hyx,A9l];exact D1c c m hsm
 have hle:y.x.decs.length<=c.x.decs.length:=by rw[hyd];exact hkl
 have e1:IntKind.i64.wrap ((y.x.decs.length:Int)+((c.x.decs.length-y.x.decs.length:Nat):Int))=((c.x.decs.length:Nat):Int):=A0h (by omega) (by omega)
 have hn0:¬(((c.x.decs.length-y.x.decs.length:Nat):Int)<0):=by omega
 have s1:=sI9 y.x.id tw' y.x.state td' k' nm' f' t' tk' [(0,X)] 1 [.t (.v (.string ⟨#[]⟩)),.t (.v (.slice none 0 0)),.t (.v (.int .i64 0)),.t (.v (.slice none 0 0)),.t (.v (.int .i64 0)),.t (.v (.string ⟨#[]⟩)),.t (.v (.int .i64 0)),.t (.v (.int .i64 0)),.t (.v (.slice none 0 0))] rfl
 obtain⟨Y,hY⟩:∃Y,Y=iRow y.x.id tw' y.x.state td' k' nm' f' t' tk':=⟨_,rfl⟩
 rw[<-hY]at s1;have z2:=ldI c.x.id tw c.x.state td k nm f t tk (H:=[(1,Y),(0,X)]) (b:=0) (by rw[hX];rfl);have w1:=ldI y.x.id tw' y.x.state td' k' nm' f' t' tk' (H:=[(1,Y),(0,X)]) (b:=1) (by rw[hY];rfl);refine A0a C ?_;simp -implicitDefEqProofs [z.a,eP,s1];refine A0a C ?_;simp -implicitDefEqProofs [w1.l0,w1.l3,z2.l0,z2.l3,ld,ld',e1,hn0,hyi,A3g];refine A0o (α:=Unit) (fun _=>⟨[(5,.ptr 1 0),(2,.ptr 0 0),(1,.t tl)],[(1,Y),(0,X)],2,129⟩) (fun _=>True) (fun _=>rfl) ?_ ?_
 ·by_cases h1:y.x.state=1
  rotate_left
  ·have b1:(y.x.state==1)=false:=by simpa using h1
   refine A0c C ?_;simp -implicitDefEqProofs [w1.l2,b1];exact Abs.Next.mk () trivial (A0d (by simp -implicitDefEqProofs))
  obtain⟨a1,a2⟩:=D7g (hyx▸h1);obtain⟨a3,a4⟩:=B1u a2;rw[<-hyx]at a2 a3 a4;rw[<-hyd]at a4;have eH:=E6r htl hsm hgD' (by omega:nodD y.x.gold<=1000000)
  have eH:E6q [tl,.ag [iv k',sv nm',iv f',iv t',tk']]=some (bv true):=by rw[eH];simp[a3]
  refine A0a C ?_;simp -implicitDefEqProofs [w1.l2,h1];refine B2r (t:=true) (by simp -implicitDefEqProofs) ?_;simp only[if_true];refine A0a C ?_;simp -implicitDefEqProofs [w1.g,eH,z2.l2,a1];refine A0a C ?_;simp -implicitDefEqProofs;refine A0f ?_;refine A0k (SAg X Y tl) (fun j=>y.x.decs.length-j) (fun j=>j<=y.x.decs.length) 0 (fun _=>rfl) (Nat.zero_le _) ?_ rfl ?_
  ·refine A0d ?_;simp -implicitDefEqProofs [SAg]
  rintro j hj;by_cases hlt:j<y.x.decs.length
  ·obtain⟨d,hdx⟩:∃d,y.x.decs[j]?=some d:=⟨_,List.getElem?_eq_getElem hlt⟩
   obtain⟨pp,i1,_,ld4,ld1⟩:=B7u hd' hdx;have ld4:∀H,A0g true 4 H (.t (.pt pp))=some (.t (.ag (ePr.enc d.p))):=ld4;have eHo:=E6p d.p hgD' hgn;rw[F9m a4 (List.mem_of_getElem? hdx)]at eHo;have e1:IntKind.i64.wrap ((j:Int)+1)=((j+1:Nat):Int):=A0h (by omega) (by omega);refine A0c C ?_;simp -implicitDefEqProofs [SAg,w1.l3,ld',hlt,w1.g,i1,ld4,ld1,eHo,e1];refine Abs.Next.mk (j+1) ⟨by omega,by omega⟩ ?_;exact A0d (by simp -implicitDefEqProofs)
  ·refine A0c C ?_;simp -implicitDefEqProofs [SAg,w1.l3,ld',hlt];exact Abs.Next.mk () trivial (A0d (by simp -implicitDefEqProofs))
 rintro _ _;have eR:=C6w htl hd' hsm (by omega);have hRt:=IsS.tree eInt (natI (remD (dvs m) y.x.decs));have lr:=hRt.len;rw[natI_len]at lr
 have hre:m.length≠0->¬(remD (dvs m) y.x.decs).length=0:=fun h e=>by
  have h2:=E9j (l:=dvs m) (ds:=c.x.decs) (fun e2=>h (by rw[<-List.length_map DC.d];rw[show m.map DC.d=dvs m from rfl,e2];rfl));rw[<-hyd,List.eq_nil_of_length_eq_zero e]at h2;cases h2
 obtain⟨rt,hrt⟩:∃rt,rt=A1g eInt (natI (remD (dvs m) y.x.decs)):=⟨_,rfl⟩
 rw[<-hrt]at lr;rw[show A1g eInt (natI (remD (m.map DC.d) y.x.decs))=rt from hrt.symm]at eR;generalize (remD (dvs m) y.x.decs).length=rl at *;have s2:=sI9 w.x.id tw2 w.x.state td2 k2 nm2 f2 t2 tk2 [(1,Y),(0,X)] 2 [.t (.v (.string ⟨#[]⟩)),.t (.v (.slice none 0 0)),.t (.v (.int .i64 0)),.t (.v (.slice none 0 0)),.t (.v (.int .i64 0)),.t (.v (.string ⟨#[]⟩)),.t (.v (.int .i64 0)),.t (.v (.int .i64 0)),.t (.v (.slice none 0 0))] rfl
 obtain⟨W,hW⟩:∃W,W=iRow w.x.id tw2 w.x.state td2 k2 nm2 f2 t2 tk2:=⟨_,rfl⟩
 rw[<-hW]at s2;have w3:=ldI y.x.id tw' y.x.state td' k' nm' f' t' tk' (H:=[(2,W),(1,Y),(0,X)]) (b:=1) (by rw[hY];rfl);have w4:=ldI w.x.id tw2 w.x.state td2 k2 nm2 f2 t2 tk2 (H:=[(2,W),(1,Y),(0,X)]) (b:=2) (by rw[hW];rfl);have eP2:gRep [.ag [sv y.x.id,tw',iv y.x.state,td',iv k',sv nm',iv f',iv t',tk'],tl]=some (.tu [.ag [sv w.x.id,tw2,iv w.x.state,td2,iv k2,sv nm2,iv f2,iv t2,tk2],.v (.int .i64 0),iv 0]):=eP2;by_cases h0:m.length=0
 ·rw[h0]at lm;have lm:A7k (.t tl)=some (.t (.v (.int .i64 0))):=lm;refine A0a C ?_;simp -implicitDefEqProofs [lm]
  cases hvy:A9x y.x with
  | false=>
   rw[hvy]at eVy;refine A0a C ?_;simp -implicitDefEqProofs [w1.a,eVy,eX]
  | true=>
  rw[hvy]at eVy;refine A0a C ?_;simp -implicitDefEqProofs [w1.a,eVy];refine A0a C ?_;simp -implicitDefEqProofs [w1.a,eP2,s2];refine A0c C ?_;simp -implicitDefEqProofs [w3.a,w4.a,eS,eX]
 ·have b0:0<m.length:=by omega
  have br:((rl:Int)==0)=false:=by have:=hre h0;simpa using (by omega:¬(rl:Int)=0)
  refine A0a C ?_;simp -implicitDefEqProofs [lm,b0,w1.l3,eR,lr,br]
  cases hvy:A9x y.x with
  | false=>
   rw[hvy]at eVy;refine A0a C ?_;simp -implicitDefEqProofs [w1.a,eVy,eX]
  | true=>
  rw[hvy]at eVy;refine A0a C ?_;simp -implicitDefEqProofs [w1.a,eVy];refine A0a C ?_;simp -implicitDefEqProofs [w1.a,eP2,s2];refine A0c C ?_;simp -implicitDefEqProofs [w3.a,w4.a,eS,eX]
end Go.Proofs.YtmplckgbeaifkaaGreatDoor
