/- Auxiliary facts. -/
import Derived.Test.YtmplckgbeaifkaaGreatDoorVCQ09
import Derived.Test.YtmplckgbeaifkaaGreatDoorProg
set_option linter.unusedSimpArgs false
set_option linter.unusedVariables false
namespace Go.Proofs.YtmplckgbeaifkaaGreatDoor
open Go Go.Abs
structure Gl where
 m:Int
 ts:Nat
 ps:Value
 tr:Nat
 pr:Value
def E7w:List Int:=[1,10,100,1000,10000,100000,1000000,10000000,100000000,1000000000,10000000000,100000000000,1000000000000,10000000000000,100000000000000,1000000000000000,10000000000000000,100000000000000000,1000000000000000000,10000000000000000000]
def G (q:Gl):A0w:=[(6,[.v (.iface q.ts q.ps)]),(7,[.v (.iface q.tr q.pr)]),(1,E7w.map fun n=>.v (.int .u64 n)),(0,[.v (.int .i64 q.m)])]
def q0:Gl:=⟨0,0,.nilIface,0,.nilIface⟩
def G0:A0w:=G q0
noncomputable section
def fG (k pa:Nat) (q:List (Nat×Mini)):List (Nat×Nat)->A0i
 | []=>if k<=1 then .draw (q.map Prod.snd)else .drawG k (C1q pa k [] q)
 | r::R=>.drawG k (C1q pa k (r::R) q)
def fE (A:List Nat) (q:List (Nat×Mini)):A0i:=fG (D5n q).2 (D5n q).1 q (E7j A q)
def fD (A:List Nat) (l:List Mini):A0i:=fE A (A2c l (E7o A l))
def cmF (N:Nat):Code->A0i
 | .region _ o true=>match o.toList.mapM (A3w ⟨Tryz.progTables,#[]⟩ G0 N true o)with
  | some l=>fD (ancs o.toList []) l
  | none=>.skip
 | .region _ o false=>match o.toList.mapM (A3w ⟨Tryz.progTables,#[]⟩ G0 N false o)with
  | some l=>.ops l
  | none=>.skip
 | .seq a b=>.seq (cmF N a) (cmF N b)
 | .cond c a b=>.cond (A0l G0 c) (cmF N a) (cmF N b)
 | .block i b=>.block i (cmF N b)
 | .loop b=>.loop (cmF N b)
 | .exit i=>.exit i
 | .ret=>.ret
 | .scope b=>.scope (cmF N b)
 | _=>.skip
def cm (f:Func) (N:Nat):A0i:=match f.body with
 | some c=>cmF N c
 | none=>.skip
end
theorem fk {q:Gl} {f k N:Nat} {vs:List RV} {M:A0i} {fn:Func} (hf:Tryz.prog.funcs[f]?=some fn) (hb:fn.body.bind (comp Tryz.prog (G q) N)=some M)
  (h:(fn.name == "runtime.NumGoroutine", fn.results.toList.mapM (B6y Tryz.prog),k+(fn.ntmps-k))=(false,some vs,N)):FnOK Tryz.prog (G q) f k N M vs:=
 ⟨fn,hf,congrArg Prod.fst h,hb,congrArg (fun x=>x.2.1) h,congrArg (fun x=>x.2.2) h⟩
open Go Go.Abs
abbrev jT:=Opd.tmp
abbrev jI (n:Int):Opd:=.k (.t (.v (.int .i64 n)))
abbrev jF:Opd:=.k (.t (.v (.bool false)))
abbrev jW:Opd:=.k (.t (.v (.bool true)))
abbrev jN:Opd:=.k (.t (.v (.slice none 0 0)))
abbrev jV (d s:Nat):Mini:=⟨some d,.mv,[.tmp s],none⟩
abbrev jM (d:Nat) (k:MK) (xs:List Opd):Mini:=⟨some d,k,xs,none⟩
abbrev jG (d:Nat) (k:MK) (xs:List Opd) (g:Nat) (b:Bool):Mini:=⟨some d,k,xs,some (g,b)⟩
abbrev jX (d s g:Nat) (b:Bool):Mini:=⟨some d,.mv,[.tmp s],some (g,b)⟩
abbrev jB (o:BinOp):MK:=.bin false o none
abbrev jL:MK:=.load false 1
abbrev jO (l:List Mini) (m:A0i):A0i:=.seq (.ops l) m
end Go.Proofs.YtmplckgbeaifkaaGreatDoor
namespace Go.Proofs.YtmplckgbeaifkaaGreatDoor
open Go Go.Abs
noncomputable def C6n:A0i:=cm Tryz.f57 26
theorem E3i {q:Gl}:FnOK Tryz.prog (G q) 57 2 26 C6n [(.tmp 4)]:=fk Tryz.func57 (by kernel_rfl) (by kernel_rfl)
noncomputable def C1z:A0i:=cm Tryz.f58 5
theorem D5v {q:Gl}:FnOK Tryz.prog (G q) 58 1 5 C1z [(.tmp 2)]:=fk Tryz.func58 (by kernel_rfl) (by kernel_rfl)
noncomputable def C6o:A0i:=cm Tryz.f60 5
theorem E3j {q:Gl}:FnOK Tryz.prog (G q) 60 1 5 C6o [(.tmp 2)]:=fk Tryz.func60 (by kernel_rfl) (by kernel_rfl)
noncomputable def B4o:A0i:=cm Tryz.f82 5
theorem C4z {q:Gl}:FnOK Tryz.prog (G q) 82 1 5 B4o [(.tmp 2)]:=fk Tryz.func82 (by kernel_rfl) (by kernel_rfl)
noncomputable def B4p:A0i:=cm Tryz.f105 38
theorem C5a {q:Gl}:FnOK Tryz.prog (G q) 105 2 38 B4p [(.tmp 4)]:=fk Tryz.func105 (by kernel_rfl) (by kernel_rfl)
noncomputable def B9o:A0i:=cm Tryz.f106 9
theorem D1z {q:Gl}:FnOK Tryz.prog (G q) 106 1 9 B9o [(.tmp 2)]:=fk Tryz.func106 (by kernel_rfl) (by kernel_rfl)
noncomputable def C2a:A0i:=cm Tryz.f107 36
theorem D5w {q:Gl}:FnOK Tryz.prog (G q) 107 2 36 C2a [(.tmp 4)]:=fk Tryz.func107 (by kernel_rfl) (by kernel_rfl)
noncomputable def B7e:A0i:=cm Tryz.f134 30
theorem C8s {q:Gl}:FnOK Tryz.prog (G q) 134 1 30 B7e [(.tmp 2)]:=fk Tryz.func134 (by kernel_rfl) (by kernel_rfl)
noncomputable def B9p:A0i:=cm Tryz.f137 38
theorem D2a {q:Gl}:FnOK Tryz.prog (G q) 137 1 38 B9p [(.tmp 2),(.tmp 3)]:=fk Tryz.func137 (by kernel_rfl) (by kernel_rfl)
noncomputable def B9q:A0i:=cm Tryz.f156 9
theorem D2b {q:Gl}:FnOK Tryz.prog (G q) 156 1 9 B9q [(.tmp 2)]:=fk Tryz.func156 (by kernel_rfl) (by kernel_rfl)
noncomputable def B5p:A0i:=cm Tryz.f157 9
theorem D5x {q:Gl}:FnOK Tryz.prog (G q) 157 1 9 B5p [(.tmp 2)]:=fk Tryz.func157 (by kernel_rfl) (by kernel_rfl)
noncomputable def C6p:A0i:=cm Tryz.f158 26
theorem E3k {q:Gl}:FnOK Tryz.prog (G q) 158 2 26 C6p [(.tmp 4)]:=fk Tryz.func158 (by kernel_rfl) (by kernel_rfl)
noncomputable def C6q:A0i:=cm Tryz.f159 46
theorem E3l {q:Gl}:FnOK Tryz.prog (G q) 159 1 46 C6q [(.tmp 2)]:=fk Tryz.func159 (by kernel_rfl) (by kernel_rfl)
noncomputable def C2b:A0i:=cm Tryz.f164 36
theorem D5y {q:Gl}:FnOK Tryz.prog (G q) 164 1 36 C2b [(.tmp 2)]:=fk Tryz.func164 (by kernel_rfl) (by kernel_rfl)
noncomputable def B9r:A0i:=cm Tryz.f180 80
theorem D2c {q:Gl}:FnOK Tryz.prog (G q) 180 1 80 B9r [(.tmp 2),(.tmp 3)]:=fk Tryz.func180 (by kernel_rfl) (by kernel_rfl)
noncomputable def B5q:A0i:=cm Tryz.f184 9
theorem D5z {q:Gl}:FnOK Tryz.prog (G q) 184 1 9 B5q [(.tmp 2)]:=fk Tryz.func184 (by kernel_rfl) (by kernel_rfl)
noncomputable def B5r:A0i:=cm Tryz.f185 9
theorem D6a {q:Gl}:FnOK Tryz.prog (G q) 185 1 9 B5r [(.tmp 2)]:=fk Tryz.func185 (by kernel_rfl) (by kernel_rfl)
noncomputable def B9s:A0i:=cm Tryz.f197 9
theorem D2d {q:Gl}:FnOK Tryz.prog (G q) 197 1 9 B9s [(.tmp 2)]:=fk Tryz.func197 (by kernel_rfl) (by kernel_rfl)
noncomputable def A2y:A0i:=cm Tryz.f210 33
theorem C8t {q:Gl}:FnOK Tryz.prog (G q) 210 1 33 A2y [(.tmp 2),(.tmp 3)]:=fk Tryz.func210 (by kernel_rfl) (by kernel_rfl)
end Go.Proofs.YtmplckgbeaifkaaGreatDoor
