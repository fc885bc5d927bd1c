/-
 Auxiliary facts. No statement of the program stands here.
-/
import Derived.Test.YtmplckgbeaifkaaGreatDoorVBQ51
import Derived.Test.YtmplckgbeaifkaaGreatDoorVBQ54
import Derived.Test.YtmplckgbeaifkaaGreatDoorVBQ46
import Derived.Test.YtmplckgbeaifkaaGreatDoorVBQ44
namespace Go.Proofs.YtmplckgbeaifkaaGreatDoor
set_option linter.unusedSimpArgs false
set_option linter.unusedVariables false
open Go Go.Abs
variable {q : Gl}
def repY (c:IC) (m:List DC):IC:=if ascD (dvs m)then C6x c m else c
theorem F6e (c:IC) (m:List DC):repT c m = .tu [.ag (repY c m).cs,iv (if ascD (dvs m)then(B1n (dvs m) c.x.decs:Nat)else 0),iv (if ascD (dvs m)then 0 else 3)]:=by
 unfold repT repY;by_cases h:ascD (dvs m)=true
 ·simp only[if_pos h];rfl
 ·simp only[if_neg h]
theorem F6f (c:IC) (m:List DC) (hc:SmE c.x) (hs:SmK (dvs m)):SmE (repY c m).x:=by
 unfold repY;split
 ·exact D4h c m hc hs
 ·exact hc
set_option maxHeartbeats 4000000 in
theorem D1d (hEx:GOK Tryz.prog (G q) 18 gEx) (c:IC) {tl:T} {m:List DC} (hm:IsS eDC tl m) (hs:SmI c.x) (hds:c.x.decs.length<=200000):A0w Tryz.prog (G q) 3 [.ag c.cs,tl] (· = bv true):=by
 have eV:=C7a c hs;have eF:=C1n hm.isK;have eX:gEx []=some (bv true):=rfl;have C:Ctx Tryz.prog (G q) _:=(A0y.cons (hVal (q:=q)) (.cons (hFew (q:=q)) (.cons hEx (.cons (E7w (q:=q)) (.cons (F8z (q:=q)) (.cons (E7a (q:=q)) .nil)))))).ctx mixed;obtain⟨tw,td,k,nm,f,t,tk,ks,ecs,_⟩:=A1a c.ok;have eR:SmK (dvs m)->gRep [.ag c.cs,tl]=some (repT c m):=fun h=>B3i c hm ⟨h,hds⟩;have eS:SmK (dvs m)->gSI [.ag (repY c m).cs,.ag (repY c m).cs]=some (bv true):=fun h=>D0r _ _ rfl (F6f c m hs.e h);rw[ecs]at eV eR ⊢;have cd:=A3c c.x.id tw c.x.state td k nm f t tk
 obtain⟨X,hX⟩:∃X,X=iRow c.x.id tw c.x.state td k nm f t tk:=⟨_,rfl⟩
 have z:=ldI c.x.id tw c.x.state td k nm f t tk (H:=[(0,X)]) (b:=0) (by rw[hX];rfl);refine B3g.call rfl ?_;unfold A7h;refine A0a C ?_;simp -implicitDefEqProofs [cd];rw[show Row.cells 28 [.t (sv c.x.id),.t tw,.t (iv c.x.state),.t td,.t (iv k),.t (sv nm),.t (iv f),.t (iv t),.t tk]=X from hX.symm]
 cases hv:A9x c.x with
 | false=>
  rw[hv]at eV;refine A0a C ?_;simp -implicitDefEqProofs [z.a,eV,eX]
 | true=>
 rw[hv]at eV
 cases hf:fewD 0 (dvs m)with
 | false=>
  rw[show fewD 0 (m.map DC.d)=false from hf]at eF;refine A0a C ?_;simp -implicitDefEqProofs [z.a,eV,eF,eX]
 | true=>
 rw[show fewD 0 (m.map DC.d)=true from hf]at eF;have hsm:=D0z hf;have eR:=eR hsm;have eS:=eS hsm;rw[F6e]at eR;generalize (if ascD (dvs m)=true then((B1n (dvs m) c.x.decs:Nat):Int)else 0)=n at *;generalize (if ascD (dvs m)=true then(0:Int)else 3)=e at *;generalize repY c m=y at *;obtain⟨tw',td',k',nm',f',t',tk',ks',ecs',_⟩:=A1a y.ok;rw[ecs']at eR eS;refine A0a C ?_;simp -implicitDefEqProofs [z.a,eV,eF];have s1:=sI9 y.x.id tw' y.x.state td' k' nm' f' t' tk' [(0,X)] 1 [.t (.v (.string ⟨#[]⟩)),.t (.v (.slice none 0 0)),.t (.v (.int .i64 0)),.t (.v (.slice none 0 0)),.t (.v (.int .i64 0)),.t (.v (.string ⟨#[]⟩)),.t (.v (.int .i64 0)),.t (.v (.int .i64 0)),.t (.v (.slice none 0 0))] rfl
 obtain⟨Y,hY⟩:∃Y,Y=iRow y.x.id tw' y.x.state td' k' nm' f' t' tk':=⟨_,rfl⟩
 have s2:=sI9 y.x.id tw' y.x.state td' k' nm' f' t' tk' [(1,Y),(0,X)] 2 [.t (.v (.string ⟨#[]⟩)),.t (.v (.slice none 0 0)),.t (.v (.int .i64 0)),.t (.v (.slice none 0 0)),.t (.v (.int .i64 0)),.t (.v (.string ⟨#[]⟩)),.t (.v (.int .i64 0)),.t (.v (.int .i64 0)),.t (.v (.slice none 0 0))] rfl;rw[<-hY]at s1 s2;have z2:=ldI c.x.id tw c.x.state td k nm f t tk (H:=[(1,Y),(0,X)]) (b:=0) (by rw[hX];rfl);have w1:=ldI y.x.id tw' y.x.state td' k' nm' f' t' tk' (H:=[(2,Y),(1,Y),(0,X)]) (b:=1) (by rw[hY];rfl);have w2:=ldI y.x.id tw' y.x.state td' k' nm' f' t' tk' (H:=[(2,Y),(1,Y),(0,X)]) (b:=2) (by rw[hY];rfl);refine A0a C ?_;simp -implicitDefEqProofs [z.a,eR,s1];refine A0a C ?_;simp -implicitDefEqProofs [z2.a,eR,s2];refine A0c C ?_;simp -implicitDefEqProofs [w1.a,w2.a,eS,eX]
end Go.Proofs.YtmplckgbeaifkaaGreatDoor
