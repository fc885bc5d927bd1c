/- Auxiliary facts. -/
import Derived.Test.YtmgjopafgboljaaGreatDoorVEQ10
import Derived.Test.YtmgjopafgboljaaGreatDoorProg
set_option linter.unusedSimpArgs false
set_option linter.unusedVariables false
namespace Go.Proofs.YtmgjopafgboljaaGreatDoor
open Go Go.Abs
structure Gl where
 m:Int
 ts:Nat
 ps:Value
 tr:Nat
 pr:Value
def E7f:List Int:=[1,10,100,1000,10000,100000,1000000,10000000,100000000,1000000000,10000000000,100000000000,1000000000000,10000000000000,100000000000000,1000000000000000,10000000000000000,100000000000000000,1000000000000000000,10000000000000000000]
def G (q:Gl):A1c:=[(2,[.v (.iface q.ts q.ps)]),(3,[.v (.iface q.tr q.pr)]),(1,E7f.map fun n=>.v (.int .u64 n)),(0,[.v (.int .i64 q.m)])]
def q0:Gl:=⟨0,0,.nilIface,0,.nilIface⟩
def G0:A1c:=G q0
noncomputable section
def fG (k pa:Nat) (q:List (Nat×Mini)):List (Nat×Nat)->A0p
 | []=>if k<=1 then .draw (q.map Prod.snd)else .drawG k (B4c pa k [] q)
 | r::R=>.drawG k (B4c pa k (r::R) q)
def fE (A:List Nat) (q:List (Nat×Mini)):A0p:=fG (D4k q).2 (D4k q).1 q (D4l A q)
def fD (A:List Nat) (l:List Mini):A0p:=fE A (A1h l (E6i A l))
def cmF (N:Nat):Code->A0p
 | .region _ o true=>match o.toList.mapM (A2z ⟨Tryz.progTables,#[]⟩ G0 N true o)with
  | some l=>fD (ancs o.toList []) l
  | none=>.skip
 | .region _ o false=>match o.toList.mapM (A2z ⟨Tryz.progTables,#[]⟩ G0 N false o)with
  | some l=>.ops l
  | none=>.skip
 | .seq a b=>.seq (cmF N a) (cmF N b)
 | .cond c a b=>.cond (A0m G0 c) (cmF N a) (cmF N b)
 | .block i b=>.block i (cmF N b)
 | .loop b=>.loop (cmF N b)
 | .exit i=>.exit i
 | .ret=>.ret
 | .scope b=>.scope (cmF N b)
 | _=>.skip
def cm (f:Func) (N:Nat):A0p:=match f.body with
 | some c=>cmF N c
 | none=>.skip
end
theorem fk {q:Gl} {f k N:Nat} {vs:List RV} {M:A0p} {fn:Func} (hf:Tryz.prog.funcs[f]?=some fn) (hb:fn.body.bind (comp Tryz.prog (G q) N)=some M)
  (h:(fn.name == "runtime.NumGoroutine", fn.results.toList.mapM (B5e Tryz.prog),k+(fn.ntmps-k))=(false,some vs,N)):FnOK Tryz.prog (G q) f k N M vs:=
 ⟨fn,hf,congrArg Prod.fst h,hb,congrArg (fun x=>x.2.1) h,congrArg (fun x=>x.2.2) h⟩
open Go Go.Abs
abbrev jT:=Opd.tmp
abbrev jI (n:Int):Opd:=.k (.t (.v (.int .i64 n)))
abbrev jF:Opd:=.k (.t (.v (.bool false)))
abbrev jW:Opd:=.k (.t (.v (.bool true)))
abbrev jN:Opd:=.k (.t (.v (.slice none 0 0)))
abbrev jV (d s:Nat):Mini:=⟨some d,.mv,[.tmp s],none⟩
abbrev jM (d:Nat) (k:MK) (xs:List Opd):Mini:=⟨some d,k,xs,none⟩
abbrev jG (d:Nat) (k:MK) (xs:List Opd) (g:Nat) (b:Bool):Mini:=⟨some d,k,xs,some (g,b)⟩
abbrev jX (d s g:Nat) (b:Bool):Mini:=⟨some d,.mv,[.tmp s],some (g,b)⟩
abbrev jB (o:BinOp):MK:=.bin false o none
abbrev jL:MK:=.load false 1
abbrev jO (l:List Mini) (m:A0p):A0p:=.seq (.ops l) m
end Go.Proofs.YtmgjopafgboljaaGreatDoor
namespace Go.Proofs.YtmgjopafgboljaaGreatDoor
open Go Go.Abs
noncomputable def B4h:A0p:=cm Tryz.f127 9
theorem D4y {q:Gl}:FnOK Tryz.prog (G q) 127 1 9 B4h [(.tmp 2)]:=fk Tryz.func127 (by kernel_rfl) (by kernel_rfl)
noncomputable def B4i:A0p:=cm Tryz.f151 9
theorem D4z {q:Gl}:FnOK Tryz.prog (G q) 151 1 9 B4i [(.tmp 2)]:=fk Tryz.func151 (by kernel_rfl) (by kernel_rfl)
noncomputable def B4j:A0p:=cm Tryz.f152 9
theorem D5a {q:Gl}:FnOK Tryz.prog (G q) 152 1 9 B4j [(.tmp 2)]:=fk Tryz.func152 (by kernel_rfl) (by kernel_rfl)
noncomputable def C5i:A0p:=cm Tryz.f129 26
theorem E2x {q:Gl}:FnOK Tryz.prog (G q) 129 2 26 C5i [(.tmp 4)]:=fk Tryz.func129 (by kernel_rfl) (by kernel_rfl)
noncomputable def C1g:A0p:=cm Tryz.f104 36
theorem D5b {q:Gl}:FnOK Tryz.prog (G q) 104 2 36 C1g [(.tmp 4)]:=fk Tryz.func104 (by kernel_rfl) (by kernel_rfl)
noncomputable def B8j:A0p:=cm Tryz.f102 9
theorem D1b {q:Gl}:FnOK Tryz.prog (G q) 102 1 9 B8j [(.tmp 2)]:=fk Tryz.func102 (by kernel_rfl) (by kernel_rfl)
noncomputable def B8k:A0p:=cm Tryz.f103 9
theorem D1c {q:Gl}:FnOK Tryz.prog (G q) 103 1 9 B8k [(.tmp 2)]:=fk Tryz.func103 (by kernel_rfl) (by kernel_rfl)
noncomputable def B8l:A0p:=cm Tryz.f128 9
theorem D1d {q:Gl}:FnOK Tryz.prog (G q) 128 1 9 B8l [(.tmp 2)]:=fk Tryz.func128 (by kernel_rfl) (by kernel_rfl)
noncomputable def B3o:A0p:=cm Tryz.f101 38
theorem C3p {q:Gl}:FnOK Tryz.prog (G q) 101 2 38 B3o [(.tmp 4)]:=fk Tryz.func101 (by kernel_rfl) (by kernel_rfl)
noncomputable def C1h:A0p:=cm Tryz.f66 5
theorem D5c {q:Gl}:FnOK Tryz.prog (G q) 66 1 5 C1h [(.tmp 2)]:=fk Tryz.func66 (by kernel_rfl) (by kernel_rfl)
noncomputable def B3p:A0p:=cm Tryz.f67 5
theorem C3q {q:Gl}:FnOK Tryz.prog (G q) 67 1 5 B3p [(.tmp 2)]:=fk Tryz.func67 (by kernel_rfl) (by kernel_rfl)
noncomputable def C5j:A0p:=cm Tryz.f68 5
theorem E2y {q:Gl}:FnOK Tryz.prog (G q) 68 1 5 C5j [(.tmp 2)]:=fk Tryz.func68 (by kernel_rfl) (by kernel_rfl)
noncomputable def B5m:A0p:=cm Tryz.f69 5
theorem C7h {q:Gl}:FnOK Tryz.prog (G q) 69 1 5 B5m [(.tmp 2)]:=fk Tryz.func69 (by kernel_rfl) (by kernel_rfl)
noncomputable def A2i:A0p:=cm Tryz.f91 33
theorem C7i {q:Gl}:FnOK Tryz.prog (G q) 91 1 33 A2i [(.tmp 2),(.tmp 3)]:=fk Tryz.func91 (by kernel_rfl) (by kernel_rfl)
noncomputable def B3q:A0p:=cm Tryz.f53 5
theorem C3r {q:Gl}:FnOK Tryz.prog (G q) 53 1 5 B3q [(.tmp 2)]:=fk Tryz.func53 (by kernel_rfl) (by kernel_rfl)
end Go.Proofs.YtmgjopafgboljaaGreatDoor
