/- Auxiliary facts. -/
import Derived.Test.YtmplckgbeaifkaaGreatDoorVDQ09
import Derived.Test.YtmplckgbeaifkaaGreatDoorProg
set_option linter.unusedSimpArgs false
set_option linter.unusedVariables false
namespace Go.Proofs.YtmplckgbeaifkaaGreatDoor
open Go Go.Abs
structure Gl where
 m:Int
 ts:Nat
 ps:Value
 tr:Nat
 pr:Value
def E0o:List Int:=[1,10,100,1000,10000,100000,1000000,10000000,100000000,1000000000,10000000000,100000000000,1000000000000,10000000000000,100000000000000,1000000000000000,10000000000000000,100000000000000000,1000000000000000000,10000000000000000000]
def G (q:Gl):A0q:=[(6,[.v (.iface q.ts q.ps)]),(7,[.v (.iface q.tr q.pr)]),(1,E0o.map fun n=>.v (.int .u64 n)),(0,[.v (.int .i64 q.m)])]
def q0:Gl:=⟨0,0,.nilIface,0,.nilIface⟩
def G0:A0q:=G q0
noncomputable section
def fG (k pa:Nat) (q:List (Nat×Mini)):List (Nat×Nat)->A0j
 | []=>if k<=1 then .draw (q.map Prod.snd)else .drawG k (B8x pa k [] q)
 | r::R=>.drawG k (B8x pa k (r::R) q)
def fE (A:List Nat) (q:List (Nat×Mini)):A0j:=fG (D0g q).2 (D0g q).1 q (D9z A q)
def fD (A:List Nat) (l:List Mini):A0j:=fE A (A1u l (E0e A l))
def cmF (N:Nat):Code->A0j
 | .region _ o true=>match o.toList.mapM (A3c ⟨Tryz.progTables,#[]⟩ G0 N true o)with
  | some l=>fD (ancs o.toList []) l
  | none=>.skip
 | .region _ o false=>match o.toList.mapM (A3c ⟨Tryz.progTables,#[]⟩ G0 N false o)with
  | some l=>.ops l
  | none=>.skip
 | .seq a b=>.seq (cmF N a) (cmF N b)
 | .cond c a b=>.cond (A0g G0 c) (cmF N a) (cmF N b)
 | .block i b=>.block i (cmF N b)
 | .loop b=>.loop (cmF N b)
 | .exit i=>.exit i
 | .ret=>.ret
 | .scope b=>.scope (cmF N b)
 | _=>.skip
def cm (f:Func) (N:Nat):A0j:=match f.body with
 | some c=>cmF N c
 | none=>.skip
end
theorem fk {q:Gl} {f k N:Nat} {vs:List RV} {M:A0j} {fn:Func} (hf:Tryz.prog.funcs[f]?=some fn) (hb:fn.body.bind (comp Tryz.prog (G q) N)=some M)
  (h:(fn.name == "runtime.NumGoroutine", fn.results.toList.mapM (B4l Tryz.prog),k+(fn.ntmps-k))=(false,some vs,N)):FnOK Tryz.prog (G q) f k N M vs:=
 ⟨fn,hf,congrArg Prod.fst h,hb,congrArg (fun x=>x.2.1) h,congrArg (fun x=>x.2.2) h⟩
open Go Go.Abs
abbrev jT:=Opd.tmp
abbrev jI (n:Int):Opd:=.k (.t (.v (.int .i64 n)))
abbrev jF:Opd:=.k (.t (.v (.bool false)))
abbrev jW:Opd:=.k (.t (.v (.bool true)))
abbrev jN:Opd:=.k (.t (.v (.slice none 0 0)))
abbrev jV (d s:Nat):Mini:=⟨some d,.mv,[.tmp s],none⟩
abbrev jM (d:Nat) (k:MK) (xs:List Opd):Mini:=⟨some d,k,xs,none⟩
abbrev jG (d:Nat) (k:MK) (xs:List Opd) (g:Nat) (b:Bool):Mini:=⟨some d,k,xs,some (g,b)⟩
abbrev jX (d s g:Nat) (b:Bool):Mini:=⟨some d,.mv,[.tmp s],some (g,b)⟩
abbrev jB (o:BinOp):MK:=.bin false o none
abbrev jL:MK:=.load false 1
abbrev jO (l:List Mini) (m:A0j):A0j:=.seq (.ops l) m
end Go.Proofs.YtmplckgbeaifkaaGreatDoor
namespace Go.Proofs.YtmplckgbeaifkaaGreatDoor
open Go Go.Abs
noncomputable def C2q:A0j:=cm Tryz.f57 26
theorem D6x {q:Gl}:FnOK Tryz.prog (G q) 57 2 26 C2q [(.tmp 4)]:=fk Tryz.func57 (by kernel_rfl) (by kernel_rfl)
noncomputable def B9f:A0j:=cm Tryz.f58 5
theorem D0o {q:Gl}:FnOK Tryz.prog (G q) 58 1 5 B9f [(.tmp 2)]:=fk Tryz.func58 (by kernel_rfl) (by kernel_rfl)
noncomputable def C2r:A0j:=cm Tryz.f60 5
theorem D6y {q:Gl}:FnOK Tryz.prog (G q) 60 1 5 C2r [(.tmp 2)]:=fk Tryz.func60 (by kernel_rfl) (by kernel_rfl)
noncomputable def B2g:A0j:=cm Tryz.f82 5
theorem C1j {q:Gl}:FnOK Tryz.prog (G q) 82 1 5 B2g [(.tmp 2)]:=fk Tryz.func82 (by kernel_rfl) (by kernel_rfl)
noncomputable def B2h:A0j:=cm Tryz.f105 38
theorem C1k {q:Gl}:FnOK Tryz.prog (G q) 105 2 38 B2h [(.tmp 4)]:=fk Tryz.func105 (by kernel_rfl) (by kernel_rfl)
noncomputable def B7a:A0j:=cm Tryz.f106 9
theorem C7m {q:Gl}:FnOK Tryz.prog (G q) 106 1 9 B7a [(.tmp 2)]:=fk Tryz.func106 (by kernel_rfl) (by kernel_rfl)
noncomputable def B9g:A0j:=cm Tryz.f107 36
theorem D0p {q:Gl}:FnOK Tryz.prog (G q) 107 2 36 B9g [(.tmp 4)]:=fk Tryz.func107 (by kernel_rfl) (by kernel_rfl)
noncomputable def B7b:A0j:=cm Tryz.f137 38
theorem C7n {q:Gl}:FnOK Tryz.prog (G q) 137 1 38 B7b [(.tmp 2),(.tmp 3)]:=fk Tryz.func137 (by kernel_rfl) (by kernel_rfl)
noncomputable def B7c:A0j:=cm Tryz.f156 9
theorem C7o {q:Gl}:FnOK Tryz.prog (G q) 156 1 9 B7c [(.tmp 2)]:=fk Tryz.func156 (by kernel_rfl) (by kernel_rfl)
noncomputable def B3d:A0j:=cm Tryz.f157 9
theorem D0q {q:Gl}:FnOK Tryz.prog (G q) 157 1 9 B3d [(.tmp 2)]:=fk Tryz.func157 (by kernel_rfl) (by kernel_rfl)
noncomputable def C2s:A0j:=cm Tryz.f158 26
theorem D6z {q:Gl}:FnOK Tryz.prog (G q) 158 2 26 C2s [(.tmp 4)]:=fk Tryz.func158 (by kernel_rfl) (by kernel_rfl)
noncomputable def B9h:A0j:=cm Tryz.f164 36
theorem D0r {q:Gl}:FnOK Tryz.prog (G q) 164 1 36 B9h [(.tmp 2)]:=fk Tryz.func164 (by kernel_rfl) (by kernel_rfl)
noncomputable def B7d:A0j:=cm Tryz.f180 80
theorem C7p {q:Gl}:FnOK Tryz.prog (G q) 180 1 80 B7d [(.tmp 2),(.tmp 3)]:=fk Tryz.func180 (by kernel_rfl) (by kernel_rfl)
noncomputable def B3e:A0j:=cm Tryz.f184 9
theorem D0s {q:Gl}:FnOK Tryz.prog (G q) 184 1 9 B3e [(.tmp 2)]:=fk Tryz.func184 (by kernel_rfl) (by kernel_rfl)
noncomputable def B3f:A0j:=cm Tryz.f185 9
theorem D0t {q:Gl}:FnOK Tryz.prog (G q) 185 1 9 B3f [(.tmp 2)]:=fk Tryz.func185 (by kernel_rfl) (by kernel_rfl)
noncomputable def B7e:A0j:=cm Tryz.f197 9
theorem C7q {q:Gl}:FnOK Tryz.prog (G q) 197 1 9 B7e [(.tmp 2)]:=fk Tryz.func197 (by kernel_rfl) (by kernel_rfl)
noncomputable def A2k:A0j:=cm Tryz.f210 33
theorem C4q {q:Gl}:FnOK Tryz.prog (G q) 210 1 33 A2k [(.tmp 2),(.tmp 3)]:=fk Tryz.func210 (by kernel_rfl) (by kernel_rfl)
end Go.Proofs.YtmplckgbeaifkaaGreatDoor
