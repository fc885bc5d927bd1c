/- Auxiliary facts. -/
import Derived.Test.YtobnacghaamfoaaGreatDoorVGQ20
import Derived.Test.YtobnacghaamfoaaGreatDoorVGQ12
set_option linter.unusedSimpArgs false
set_option maxRecDepth 100000
set_option maxHeartbeats 0
set_option linter.unusedVariables false
open Go.Proofs.Tryz renaming prog->Xa
namespace Go.Proofs.YtobnacghaamfoaaGreatDoor
open Go Go.Abs
variable {q : Gl}
def Q3:Ty UInt8:=⟨λt c=>t=cv c,λt a b h h'=>by
 rw[h]at h';injection h' with h';injection h' with _ h'
 exact UInt8.toNat_inj.1 (by omega)⟩
theorem bE (c:UInt8):A1 Xa (G q) 87 [cv c] (· = bv (AR c)):=by
 refine uM.runs Ac rfl ?_;by_cases h1:48<=c.toNat
 .have h1':(48:Int)<=(c.toNat:Int):=by omega
  have e:decide ((c.toNat:Int)<=57)=decide (c.toNat<=57):=by congr 1;apply propext;omega
  (conv in SS=>cbv);simp -implicitDefEqProofs [AR,h1,h1',e]
 .have h1':¬(48:Int)<=(c.toNat:Int):=by omega
  (conv in SS=>cbv);simp -implicitDefEqProofs [AR,h1,h1']
theorem bF (c:UInt8):A1 Xa (G q) 49 [cv c] (· = bv (Bq c)):=by
 refine uL.runs Ac rfl ?_;by_cases h1:65<=c.toNat
 .have h1':(65:Int)<=(c.toNat:Int):=by omega
  have e:decide ((c.toNat:Int)<=90)=decide (c.toNat<=90):=by congr 1;apply propext;omega
  (conv in SR=>cbv);simp -implicitDefEqProofs [Bq,h1,h1',e]
 .have h1':¬(65:Int)<=(c.toNat:Int):=by omega
  (conv in SR=>cbv);simp -implicitDefEqProofs [Bq,h1,h1']
theorem bG (c:UInt8):A1 Xa (G q) 48 [cv c] (· = bv (B7 c)):=by
 refine uQ.runs Ac rfl ?_;by_cases h1:97<=c.toNat
 .have h1':(97:Int)<=(c.toNat:Int):=by omega
  have e:decide ((c.toNat:Int)<=122)=decide (c.toNat<=122):=by congr 1;apply propext;omega
  (conv in SU=>cbv);simp -implicitDefEqProofs [B7,h1,h1',e]
 .have h1':¬(97:Int)<=(c.toNat:Int):=by omega
  (conv in SU=>cbv);simp -implicitDefEqProofs [B7,h1,h1']
noncomputable def JN (f:UInt8->Bool):List T->Option T:=g1 Q3 λc=>some (bv (f c))
theorem M9 {F:Nat} {f:UInt8->Bool} (h:∀c,A1 Xa (G q) F [cv c] (· = bv (f c))):GOK Xa (G q) F (JN f):=
 D6 λa x r ha hr=>by
  have e:a=cv x:=ha;injection hr with hr;subst hr;subst e;exact h x
theorem Ll (f:UInt8->Bool) (c:UInt8):JN f [cv c]=some (bv (f c)):=D8 (τ:=Q3) rfl
noncomputable def tbc:Tbl:=[(87,JN AR),(49,JN Bq),(48,JN B7)]
theorem EH:Ctx Xa (G q) (orc tbc):=(As.cons (M9 bE) (.cons (M9 bF) (.cons (M9 bG) .nil))).ctx mixed
theorem wE (c:UInt8) (big:Bool):A1 Xa (G q) 86 [cv c,bv big] (· = bv (BL big c)):=by
 refine uP.runs EH rfl ?_
 have e45:((c.toNat:Int)==45)=decide (c.toNat=45):=by
  by_cases h:c.toNat=45
  .rw[h];rfl
  .rw[zx h,zu];omega
 have q1:=Ll AR c;have q2:=Ll Bq c;have q3:=Ll B7 c
 cases hd:AR c<;>cases h4:decide (c.toNat=45)<;>cases big<;>cases hu:Bq c<;>cases hl:B7 c <;>
  (conv in aF=>cbv)<;>simp -implicitDefEqProofs [tbc,q1,q2,q3,e45,hd,h4,hu,hl,BL]
noncomputable def tbp:Tbl:=[(87,JN AR),(86,g2 Q3 Qn λc b=>some (bv (BL b c)))]
theorem Q4:Ctx Xa (G q) (orc tbp):=(As.cons (M9 bE) (.cons (Do λa b x y r ha hb hr=>by
 have e1:a=cv x:=ha;have e2:b=bv y:=hb;injection hr with hr;subst hr;subst e1;subst e2
 exact wE x y) .nil)).ctx mixed
end Go.Proofs.YtobnacghaamfoaaGreatDoor
