/- Auxiliary facts. -/
import Derived.Test.YtmgjopafgboljaaGreatDoorVFQ09
import Derived.Test.YtmgjopafgboljaaGreatDoorProg
set_option linter.unusedSimpArgs false
set_option linter.unusedVariables false
open Go.Proofs.Tryz renaming prog->Xc,progTables->Xd
namespace Go.Proofs.YtmgjopafgboljaaGreatDoor
open Go Go.Abs
structure Gl where
 m:Int
 ts:Nat
 ps:Value
 tr:Nat
 pr:Value
def LD:List Int:=[1,10,100,1000,10000,100000,1000000,10000000,100000000,1000000000,10000000000,100000000000,1000000000000,10000000000000,100000000000000,1000000000000000,10000000000000000,100000000000000000,1000000000000000000,10000000000000000000]
def G (q:Gl):AM:=[(2,[.v (.iface q.ts q.ps)]),(3,[.v (.iface q.tr q.pr)]),(1,LD.map λn=>.v (.int .u64 n)),(0,[.v (.int .i64 q.m)])]
def q0:Gl:=⟨0,0,.nilIface,0,.nilIface⟩
def G0:AM:=G q0
noncomputable section
def fG (k pa:Nat) (q:List (Nat×AF)):List (Nat×Nat)->AE
 | []=>if k<=1 then .draw (q.map Prod.snd)else .drawG k (IG pa k [] q)
 | r::R=>.drawG k (IG pa k (r::R) q)
def fE (A:List Nat) (q:List (Nat×AF)):AE:=fG (Pm q).2 (Pm q).1 q (Pn A q)
def fD (A:List Nat) (l:List AF):AE:=fE A (B9 l (Lm A l))
def cmF (N:Nat):Code->AE
 | .region _ o true=>match o.toList.mapM (Em ⟨Xd,#[]⟩ G0 N true o)with
  | some l=>fD (DJ o.toList []) l
  | none=>.skip
 | .region _ o false=>match o.toList.mapM (Em ⟨Xd,#[]⟩ G0 N false o)with
  | some l=>.ops l
  | none=>.skip
 | .seq a b=>.seq (cmF N a) (cmF N b)
 | .cond c a b=>.cond (AU G0 c) (cmF N a) (cmF N b)
 | .block i b=>.block i (cmF N b)
 | .loop b=>.loop (cmF N b)
 | .exit i=>.exit i
 | .ret=>.ret
 | .scope b=>.scope (cmF N b)
 | _=>.skip
def cm (f:Func) (N:Nat):AE:=match f.body with
 | some c=>cmF N c
 | none=>.skip
end
theorem fk {q:Gl} {f k N:Nat} {vs:List RV} {M:AE} {fn:Func} (hf:Xc.funcs[f]?=some fn) (hb:fn.body.bind (comp Xc (G q) N)=some M)
  (h:(fn.name == "runtime.NumGoroutine", fn.results.toList.mapM (GY Xc),k+(fn.ntmps-k))=(false,some vs,N)):AQ Xc (G q) f k N M vs:=
 ⟨fn,hf,congrArg Prod.fst h,hb,congrArg (λx=>x.2.1) h,congrArg (λx=>x.2.2) h⟩
open Go Go.Abs
abbrev jT:=Opd.tmp
abbrev jI (n:Int):Opd:=.k (.t (.v (.int .i64 n)))
abbrev jF:Opd:=.k (.t (.v (.bool false)))
abbrev jW:Opd:=.k (.t (.v (.bool true)))
abbrev jN:Opd:=.k (.t (.v (.slice none 0 0)))
abbrev jV (d s:Nat):AF:=⟨some d,.mv,[.tmp s],none⟩
abbrev jM (d:Nat) (k:MK) (xs:List Opd):AF:=⟨some d,k,xs,none⟩
abbrev jG (d:Nat) (k:MK) (xs:List Opd) (g:Nat) (b:Bool):AF:=⟨some d,k,xs,some (g,b)⟩
abbrev jX (d s g:Nat) (b:Bool):AF:=⟨some d,.mv,[.tmp s],some (g,b)⟩
abbrev jB (o:BinOp):MK:=.bin false o none
abbrev jL:MK:=.load false 1
abbrev jO (l:List AF) (m:AE):AE:=.seq (.ops l) m
end Go.Proofs.YtmgjopafgboljaaGreatDoor
namespace Go.Proofs.YtmgjopafgboljaaGreatDoor
open Go Go.Abs
noncomputable def PH:AE:=cm Tryz.f127 9
theorem lD {q:Gl}:AQ Xc (G q) 127 1 9 PH [(.tmp 2)]:=fk Tryz.func127 (by kernel_rfl) (by kernel_rfl)
noncomputable def PI:AE:=cm Tryz.f151 9
theorem lE {q:Gl}:AQ Xc (G q) 151 1 9 PI [(.tmp 2)]:=fk Tryz.func151 (by kernel_rfl) (by kernel_rfl)
noncomputable def PJ:AE:=cm Tryz.f152 9
theorem lF {q:Gl}:AQ Xc (G q) 152 1 9 PJ [(.tmp 2)]:=fk Tryz.func152 (by kernel_rfl) (by kernel_rfl)
noncomputable def Un:AE:=cm Tryz.f129 26
theorem lG {q:Gl}:AQ Xc (G q) 129 2 26 Un [(.tmp 4)]:=fk Tryz.func129 (by kernel_rfl) (by kernel_rfl)
noncomputable def Uo:AE:=cm Tryz.f104 36
theorem lH {q:Gl}:AQ Xc (G q) 104 2 36 Uo [(.tmp 4)]:=fk Tryz.func104 (by kernel_rfl) (by kernel_rfl)
noncomputable def Up:AE:=cm Tryz.f102 9
theorem lI {q:Gl}:AQ Xc (G q) 102 1 9 Up [(.tmp 2)]:=fk Tryz.func102 (by kernel_rfl) (by kernel_rfl)
noncomputable def Uq:AE:=cm Tryz.f103 9
theorem lJ {q:Gl}:AQ Xc (G q) 103 1 9 Uq [(.tmp 2)]:=fk Tryz.func103 (by kernel_rfl) (by kernel_rfl)
noncomputable def Ur:AE:=cm Tryz.f128 9
theorem lK {q:Gl}:AQ Xc (G q) 128 1 9 Ur [(.tmp 2)]:=fk Tryz.func128 (by kernel_rfl) (by kernel_rfl)
noncomputable def Us:AE:=cm Tryz.f101 38
theorem lL {q:Gl}:AQ Xc (G q) 101 2 38 Us [(.tmp 4)]:=fk Tryz.func101 (by kernel_rfl) (by kernel_rfl)
noncomputable def Ut:AE:=cm Tryz.f66 5
theorem lO {q:Gl}:AQ Xc (G q) 66 1 5 Ut [(.tmp 2)]:=fk Tryz.func66 (by kernel_rfl) (by kernel_rfl)
noncomputable def Uu:AE:=cm Tryz.f67 5
theorem lP {q:Gl}:AQ Xc (G q) 67 1 5 Uu [(.tmp 2)]:=fk Tryz.func67 (by kernel_rfl) (by kernel_rfl)
noncomputable def Uv:AE:=cm Tryz.f68 5
theorem lQ {q:Gl}:AQ Xc (G q) 68 1 5 Uv [(.tmp 2)]:=fk Tryz.func68 (by kernel_rfl) (by kernel_rfl)
noncomputable def Uw:AE:=cm Tryz.f69 5
theorem lR {q:Gl}:AQ Xc (G q) 69 1 5 Uw [(.tmp 2)]:=fk Tryz.func69 (by kernel_rfl) (by kernel_rfl)
noncomputable def HB:AE:=cm Tryz.f91 33
theorem lS {q:Gl}:AQ Xc (G q) 91 1 33 HB [(.tmp 2),(.tmp 3)]:=fk Tryz.func91 (by kernel_rfl) (by kernel_rfl)
noncomputable def Ux:AE:=cm Tryz.f100 80
theorem lU {q:Gl}:AQ Xc (G q) 100 1 80 Ux [(.tmp 2),(.tmp 3)]:=fk Tryz.func100 (by kernel_rfl) (by kernel_rfl)
noncomputable def Uy:AE:=cm Tryz.f53 5
theorem lV {q:Gl}:AQ Xc (G q) 53 1 5 Uy [(.tmp 2)]:=fk Tryz.func53 (by kernel_rfl) (by kernel_rfl)
end Go.Proofs.YtmgjopafgboljaaGreatDoor
