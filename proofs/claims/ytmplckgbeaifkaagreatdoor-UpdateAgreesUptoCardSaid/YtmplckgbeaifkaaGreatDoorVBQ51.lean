/-
 Auxiliary facts. No statement of the program stands here.
-/
import Derived.Test.YtmplckgbeaifkaaGreatDoorVBQ50
import Derived.Test.YtmplckgbeaifkaaGreatDoorVBQ40
namespace Go.Proofs.YtmplckgbeaifkaaGreatDoor
set_option linter.unusedSimpArgs false
set_option linter.unusedVariables false
open Go Go.Abs Go.ChangeShapes Go.WideShapes Go.ChangeAt Go.RowKit
section
variable {H : Type} {enc : TypeId × Value -> H} {W : World} {spare : Nat -> Bool} {held : Bool} {N : Nat}
theorem C1o {v:Value} {d:DataW H} {p:List MemPlace} (h:DataW.Trod enc Tryz.prog W 0 spare held 28 v d p) {us:Array Value} (hv:v = .agg us) (hb:Rows.uptoBulk d<=1048576) :
  ∃c:IC,SmI c.x/\c.x.decs.length<=200000/\RepT (Old W) W (.ag c.cs) v:=by
 obtain⟨fuel,hf⟩:=h;subst hv;obtain⟨ts,hr,c,rfl,hB⟩:=E7y (N:=fuel+1) fuel (by omega) _ (d,p) hf;exact⟨c,hB.sm hb,hB.decs' hb,E8a hr⟩
theorem B3k {v:Value} {d:DataW H} {p:List MemPlace} (h:DataW.Trod enc Tryz.prog W 0 spare held 24 v d p) {a:Option Addr} {len cap':Nat} (hv:v = .slice a len cap') (hb:Rows.uptoBulk d<=1048576) :
  ∃x l,IsS eDC x l/\(∀r∈l,Wd r.d)/\RepT (Old W) W x v:=by
 obtain⟨fuel,hf⟩:=h;subst hv;obtain⟨ts,hr,x,l,bs,rfl,hx,hF,hB⟩:=D0x (N:=fuel+1) fuel (by omega) _ (d,p) hf;refine⟨x,l,hx,fun r hr=>?_,E7z hr⟩;obtain⟨b',h1,h2⟩:=hF.mem r hr;have hB:bs.sum+1<=Rows.uptoBulk d:=hB;exact h2.wd (by omega)
end
open Go Go.Abs
variable {q : Gl}
def A9x (x:It):Bool:=B5b x&&decide (chkT ⟨⟨#[118]⟩,[x]⟩=0)
set_option maxHeartbeats 2000000 in
theorem E1f (c:IC) (hs:SmI c.x):A0w Tryz.prog (G q) 16 [.ag c.cs] (· = bv (A9x c.x)):=by
 have eL:=D4f c;have eC:gChk [.ag [sv ⟨#[118]⟩,slT eIC [c]]]=some (iv (chkT ⟨⟨#[118]⟩,[c.x]⟩)):=C6y (ver:=⟨#[118]⟩) (l:=[c]) (IsS.mk _) ⟨by decide,by simp,fun d hd=>by rw[List.mem_singleton.1 hd];exact hs⟩;obtain⟨tw,td,k,nm,f,t,tk,ks,ecs,hg,hk,hw,hd,hgD⟩:=A1a c.ok
 obtain⟨R,hR⟩:∃R,R=A9x c.x:=⟨_,rfl⟩
 rw[<-hR];unfold A9x at hR;generalize B5b c.x=li at *;generalize chkT ⟨⟨#[118]⟩,[c.x]⟩=ck at *;rw[ecs]at eL ⊢;have cd:=A3c c.x.id tw c.x.state td k nm f t tk
 obtain⟨X,hX⟩:∃X,X=iRow c.x.id tw c.x.state td k nm f t tk:=⟨_,rfl⟩
 have z:=ldI c.x.id tw c.x.state td k nm f t tk (H:=[(0,X)]) (b:=0) (by rw[hX];rfl);have bs:=bsI c.x.id tw c.x.state td k nm f t tk 1;rw[<-hX]at bs
 have hXr:X=A1b eIC 28 [c]:=by
  rw[hX];show _=Row.cells _ (([c].flatMap eIC.enc).map .t);simp only[List.flatMap_cons,List.flatMap_nil,List.append_nil];show _=Row.cells _ (c.cs.map .t);rw[ecs];rfl
 have tt:toT [(1,X),(0,X)] (.row 1 0 1 9)=some (slT eIC [c],[1]):=A7r (e:=eIC) (ty:=28) (l:=[c]) (by rw[<-hXr];rfl);have C:Ctx Tryz.prog (G q) _:=(A0y.cons (hLiI (q:=q)) (.cons (F5z (q:=q)) .nil)).ctx mixed;refine D3w.call rfl ?_;unfold C1i;refine A0a C ?_;simp -implicitDefEqProofs [cd];rw[show Row.cells 28 [.t (sv c.x.id),.t tw,.t (iv c.x.state),.t td,.t (iv k),.t (sv nm),.t (iv f),.t (iv t),.t tk]=X from hX.symm];refine A0c C ?_
 cases li with
 | false=>simp -implicitDefEqProofs [z.a,eL,hR]
 | true=>
  simp only[Bool.true_and]at hR
  have hcz:(ck==0)=R:=by rw[hR,Bool.eq_iff_iff];simp
  have tt0:∀(H:Heap) (x:T),toT H (.t x)=some (x,[]):=fun _ _=>rfl;have fl:A8e (fun k=>[(0,1),(1,1)][k]?) [.t (.v (.string ⟨#[]⟩)),.t (.v (.slice none 0 0))] [(0,.t (.v (.string ⟨#[118]⟩))),(1,.row 1 0 1 9)]=some [.t (sv ⟨#[118]⟩),.row 1 0 1 9]:=rfl
  obtain⟨pa,hpa⟩:∃pa,pa=agOf [.t (sv ⟨#[118]⟩),.row 1 0 1 9]:=⟨_,rfl⟩
  have tA:toT [(1,X),(0,X)] pa=some (.ag [sv ⟨#[118]⟩,slT eIC [c]],[1]):=by
   rw[hpa];show(toTs [(1,X),(0,X)] [.t (sv ⟨#[118]⟩),.row 1 0 1 9]).map _=_;simp only[toTs,tt0,tt];rfl
  simp -implicitDefEqProofs [z.a,eL,bs,fl,<-hpa,tA,tt0,eC,hcz,-toT]
noncomputable def gVal:List T->Option T:=g1 tIt fun c=>open Classical in if SmI c.x then some (bv (A9x c.x))else none
theorem hVal:GOK Tryz.prog (G q) 16 gVal:=A4c fun a c r ha hr=>by
 split at hr
 ·rename_i h;injection hr with hr;subst hr;have ha:a = .ag c.cs:=ha;subst ha;exact E1f c h
 ·cases hr
theorem C7a (c:IC) (h:SmI c.x):gVal [.ag c.cs]=some (bv (A9x c.x)):=by
 show g1 _ _ _=_;rw[A5b (τ:=tIt) (x:=c) rfl,if_pos h]
end Go.Proofs.YtmplckgbeaifkaaGreatDoor
