/- Auxiliary facts. -/
import Derived.Test.YtobnacghaamfoaaGreatDoorVGQ08
import Derived.Test.YtobnacghaamfoaaGreatDoorProg
set_option linter.unusedSimpArgs false
set_option linter.unusedVariables false
open Go.Proofs.Tryz renaming prog->Xa,progTables->Xb
namespace Go.Proofs.YtobnacghaamfoaaGreatDoor
open Go Go.Abs
structure Gl where
 m:Int
 ts:Nat
 ps:Value
 tr:Nat
 pr:Value
def XM:List Int:=[1,10,100,1000,10000,100000,1000000,10000000,100000000,1000000000,10000000000,100000000000,1000000000000,10000000000000,100000000000000,1000000000000000,10000000000000000,100000000000000000,1000000000000000000,10000000000000000000]
def G (q:Gl):A2:=[(1,[.v (.iface q.ts q.ps)]),(2,[.v (.iface q.tr q.pr)]),(5,XM.map λn=>.v (.int .u64 n)),(0,[.v (.int .i64 q.m)])]
def q0:Gl:=⟨0,0,.nilIface,0,.nilIface⟩
def G0:A2:=G q0
noncomputable section
def fG (k pa:Nat) (q:List (Nat×A3)):List (Nat×Nat)->An
 | []=>if k<=1 then .draw (q.map Prod.snd)else .drawG k (NP pa k [] q)
 | r::R=>.drawG k (NP pa k (r::R) q)
def fE (A:List Nat) (q:List (Nat×A3)):An:=fG (Sy q).2 (Sy q).1 q (VY A q)
def fD (A:List Nat) (l:List A3):An:=fE A (C4 l (NS A l))
def cmF (N:Nat):Code->An
 | .region _ o true=>match o.toList.mapM (EZ ⟨Xb,#[]⟩ G0 N true o)with
  | some l=>fD (ED o.toList []) l
  | none=>.skip
 | .region _ o false=>match o.toList.mapM (EZ ⟨Xb,#[]⟩ G0 N false o)with
  | some l=>.ops l
  | none=>.skip
 | .seq a b=>.seq (cmF N a) (cmF N b)
 | .cond c a b=>.cond (AY G0 c) (cmF N a) (cmF N b)
 | .block i b=>.block i (cmF N b)
 | .loop b=>.loop (cmF N b)
 | .exit i=>.exit i
 | .ret=>.ret
 | .scope b=>.scope (cmF N b)
 | _=>.skip
def cm (f:Func) (N:Nat):An:=match f.body with
 | some c=>cmF N c
 | none=>.skip
end
theorem fk {q:Gl} {f k N:Nat} {vs:List RV} {M:An} {fn:Func} (hf:Xa.funcs[f]?=some fn) (hb:fn.body.bind (comp Xa (G q) N)=some M)
  (h:(fn.name == "runtime.NumGoroutine", fn.results.toList.mapM (Hw Xa),k+(fn.ntmps-k))=(false,some vs,N)):A6 Xa (G q) f k N M vs:=
 ⟨fn,hf,congrArg Prod.fst h,hb,congrArg (λx=>x.2.1) h,congrArg (λx=>x.2.2) h⟩
open Go Go.Abs
abbrev jT:=Opd.tmp
abbrev jI (n:Int):Opd:=.k (.t (.v (.int .i64 n)))
abbrev jF:Opd:=.k (.t (.v (.bool false)))
abbrev jW:Opd:=.k (.t (.v (.bool true)))
abbrev jN:Opd:=.k (.t (.v (.slice none 0 0)))
abbrev jV (d s:Nat):A3:=⟨some d,.mv,[.tmp s],none⟩
abbrev jM (d:Nat) (k:MK) (xs:List Opd):A3:=⟨some d,k,xs,none⟩
abbrev jG (d:Nat) (k:MK) (xs:List Opd) (g:Nat) (b:Bool):A3:=⟨some d,k,xs,some (g,b)⟩
abbrev jX (d s g:Nat) (b:Bool):A3:=⟨some d,.mv,[.tmp s],some (g,b)⟩
abbrev jB (o:BinOp):MK:=.bin false o none
abbrev jL:MK:=.load false 1
abbrev jO (l:List A3) (m:An):An:=.seq (.ops l) m
end Go.Proofs.YtobnacghaamfoaaGreatDoor
namespace Go.Proofs.YtobnacghaamfoaaGreatDoor
open Go Go.Abs
noncomputable def XN:An:=cm Tryz.f64 5
theorem rJ {q:Gl}:A6 Xa (G q) 64 1 5 XN [(.tmp 2)]:=fk Tryz.func64 (by kernel_rfl) (by kernel_rfl)
noncomputable def XO:An:=cm Tryz.f105 5
theorem rK {q:Gl}:A6 Xa (G q) 105 1 5 XO [(.tmp 2)]:=fk Tryz.func105 (by kernel_rfl) (by kernel_rfl)
noncomputable def XP:An:=cm Tryz.f99 36
theorem rL {q:Gl}:A6 Xa (G q) 99 1 36 XP [(.tmp 2)]:=fk Tryz.func99 (by kernel_rfl) (by kernel_rfl)
noncomputable def IJ:An:=cm Tryz.f113 33
theorem rM {q:Gl}:A6 Xa (G q) 113 1 33 IJ [(.tmp 2),(.tmp 3)]:=fk Tryz.func113 (by kernel_rfl) (by kernel_rfl)
noncomputable def XQ:An:=cm Tryz.f98 38
theorem rN {q:Gl}:A6 Xa (G q) 98 1 38 XQ [(.tmp 2),(.tmp 3)]:=fk Tryz.func98 (by kernel_rfl) (by kernel_rfl)
noncomputable def XR:An:=cm Tryz.f20 26
theorem rO {q:Gl}:A6 Xa (G q) 20 2 26 XR [(.tmp 4)]:=fk Tryz.func20 (by kernel_rfl) (by kernel_rfl)
noncomputable def XS:An:=cm Tryz.f28 43
theorem rP {q:Gl}:A6 Xa (G q) 28 1 43 XS [(.tmp 2),(.tmp 3),(.tmp 4)]:=fk Tryz.func28 (by kernel_rfl) (by kernel_rfl)
noncomputable def XT:An:=cm Tryz.f104 38
theorem rQ {q:Gl}:A6 Xa (G q) 104 2 38 XT [(.tmp 4)]:=fk Tryz.func104 (by kernel_rfl) (by kernel_rfl)
noncomputable def XU:An:=cm Tryz.f88 9
theorem rR {q:Gl}:A6 Xa (G q) 88 1 9 XU [(.tmp 2)]:=fk Tryz.func88 (by kernel_rfl) (by kernel_rfl)
noncomputable def XV:An:=cm Tryz.f90 9
theorem rS {q:Gl}:A6 Xa (G q) 90 1 9 XV [(.tmp 2)]:=fk Tryz.func90 (by kernel_rfl) (by kernel_rfl)
noncomputable def XW:An:=cm Tryz.f55 56
theorem rT {q:Gl}:A6 Xa (G q) 55 1 56 XW []:=fk Tryz.func55 (by kernel_rfl) (by kernel_rfl)
noncomputable def Lg:An:=cm Tryz.f56 51
theorem M5 {q:Gl}:A6 Xa (G q) 56 1 51 Lg [(.cell 2 true 3),(.tmp 3)]:=fk Tryz.func56 (by kernel_rfl) (by kernel_rfl)
noncomputable def XX:An:=cm Tryz.f91 9
theorem rU {q:Gl}:A6 Xa (G q) 91 1 9 XX [(.tmp 2)]:=fk Tryz.func91 (by kernel_rfl) (by kernel_rfl)
noncomputable def SG:An:=cm Tryz.f89 23
theorem XY {q:Gl}:A6 Xa (G q) 89 3 23 SG [(.cell 6 true 3),(.tmp 7)]:=fk Tryz.func89 (by kernel_rfl) (by kernel_rfl)
noncomputable def XZ:An:=cm Tryz.f92 87
theorem rV {q:Gl}:A6 Xa (G q) 92 1 87 XZ [(.cell 2 true 3),(.tmp 3)]:=fk Tryz.func92 (by kernel_rfl) (by kernel_rfl)
noncomputable def YA:An:=cm Tryz.f93 90
theorem rW {q:Gl}:A6 Xa (G q) 93 1 90 YA [(.cell 2 true 3),(.tmp 3)]:=fk Tryz.func93 (by kernel_rfl) (by kernel_rfl)
noncomputable def Of:An:=cm Tryz.f94 67
theorem Qo {q:Gl}:A6 Xa (G q) 94 1 67 Of [(.cell 2 true 3),(.tmp 3)]:=fk Tryz.func94 (by kernel_rfl) (by kernel_rfl)
noncomputable def YB:An:=cm Tryz.f112 76
theorem rX {q:Gl}:A6 Xa (G q) 112 2 76 YB [(.tmp 4)]:=fk Tryz.func112 (by kernel_rfl) (by kernel_rfl)
noncomputable def YC:An:=cm Tryz.f106 5
theorem rY {q:Gl}:A6 Xa (G q) 106 1 5 YC [(.tmp 2)]:=fk Tryz.func106 (by kernel_rfl) (by kernel_rfl)
noncomputable def YD:An:=cm Tryz.f123 44
theorem rZ {q:Gl}:A6 Xa (G q) 123 2 44 YD [(.tmp 4)]:=fk Tryz.func123 (by kernel_rfl) (by kernel_rfl)
noncomputable def SH:An:=cm Tryz.f138 11
theorem s9 {q:Gl}:A6 Xa (G q) 138 2 11 SH [(.tmp 4)]:=fk Tryz.func138 (by kernel_rfl) (by kernel_rfl)
noncomputable def YE:An:=cm Tryz.f137 72
theorem sC {q:Gl}:A6 Xa (G q) 137 1 72 YE [(.tmp 2)]:=fk Tryz.func137 (by kernel_rfl) (by kernel_rfl)
noncomputable def YF:An:=cm Tryz.f159 6
theorem sD {q:Gl}:A6 Xa (G q) 159 1 6 YF [(.tmp 2)]:=fk Tryz.func159 (by kernel_rfl) (by kernel_rfl)
noncomputable def YG:An:=cm Tryz.f161 6
theorem sE {q:Gl}:A6 Xa (G q) 161 1 6 YG [(.tmp 2)]:=fk Tryz.func161 (by kernel_rfl) (by kernel_rfl)
noncomputable def YH:An:=cm Tryz.f158 9
theorem sF {q:Gl}:A6 Xa (G q) 158 2 9 YH [(.tmp 4)]:=fk Tryz.func158 (by kernel_rfl) (by kernel_rfl)
noncomputable def YI:An:=cm Tryz.f180 19
theorem sG {q:Gl}:A6 Xa (G q) 180 2 19 YI [(.tmp 4)]:=fk Tryz.func180 (by kernel_rfl) (by kernel_rfl)
noncomputable def YJ:An:=cm Tryz.f160 9
theorem sH {q:Gl}:A6 Xa (G q) 160 2 9 YJ [(.tmp 4)]:=fk Tryz.func160 (by kernel_rfl) (by kernel_rfl)
noncomputable def YK:An:=cm Tryz.f181 19
theorem sI {q:Gl}:A6 Xa (G q) 181 2 19 YK [(.tmp 4)]:=fk Tryz.func181 (by kernel_rfl) (by kernel_rfl)
noncomputable def YL:An:=cm Tryz.f110 16
theorem sJ {q:Gl}:A6 Xa (G q) 110 1 16 YL [(.tmp 2),(.tmp 3)]:=fk Tryz.func110 (by kernel_rfl) (by kernel_rfl)
noncomputable def YM:An:=cm Tryz.f125 100
theorem sK {q:Gl}:A6 Xa (G q) 125 2 100 YM []:=fk Tryz.func125 (by kernel_rfl) (by kernel_rfl)
noncomputable def SI:An:=cm Tryz.f140 23
theorem sL {q:Gl}:A6 Xa (G q) 140 2 23 SI []:=fk Tryz.func140 (by kernel_rfl) (by kernel_rfl)
noncomputable def SJ:An:=cm Tryz.f174 24
theorem YN {q:Gl}:A6 Xa (G q) 174 1 24 SJ [(.cell 2 true 3)]:=fk Tryz.func174 (by kernel_rfl) (by kernel_rfl)
noncomputable def Qp:An:=cm Tryz.f196 44
theorem sN {q:Gl}:A6 Xa (G q) 196 2 44 Qp [(.tmp 4)]:=fk Tryz.func196 (by kernel_rfl) (by kernel_rfl)
noncomputable def Qr:An:=cm Tryz.f192 22
theorem SK {q:Gl}:A6 Xa (G q) 192 2 22 Qr [(.tmp 4)]:=fk Tryz.func192 (by kernel_rfl) (by kernel_rfl)
noncomputable def Qs:An:=cm Tryz.f206 18
theorem SL {q:Gl}:A6 Xa (G q) 206 2 18 Qs []:=fk Tryz.func206 (by kernel_rfl) (by kernel_rfl)
noncomputable def Qt:An:=cm Tryz.f176 24
theorem SM {q:Gl}:A6 Xa (G q) 176 4 24 Qt [(.tmp 8)]:=fk Tryz.func176 (by kernel_rfl) (by kernel_rfl)
noncomputable def Og:An:=cm Tryz.f175 78
theorem sO {q:Gl}:A6 Xa (G q) 175 3 78 Og [(.tmp 6)]:=fk Tryz.func175 (by kernel_rfl) (by kernel_rfl)
noncomputable def YO:An:=cm Tryz.f193 38
theorem sQ {q:Gl}:A6 Xa (G q) 193 3 38 YO [(.tmp 6)]:=fk Tryz.func193 (by kernel_rfl) (by kernel_rfl)
noncomputable def YP:An:=cm Tryz.f207 23
theorem sR {q:Gl}:A6 Xa (G q) 207 2 23 YP [(.tmp 4)]:=fk Tryz.func207 (by kernel_rfl) (by kernel_rfl)
noncomputable def SO:An:=cm Tryz.f194 34
theorem YQ {q:Gl}:A6 Xa (G q) 194 2 34 SO [(.cell 4 true 4)]:=fk Tryz.func194 (by kernel_rfl) (by kernel_rfl)
noncomputable def M6:An:=cm Tryz.f195 19
theorem Oh {q:Gl}:A6 Xa (G q) 195 2 19 M6 [(.cell 4 true 4)]:=fk Tryz.func195 (by kernel_rfl) (by kernel_rfl)
noncomputable def Oi:An:=cm Tryz.f156 30
theorem YR {q:Gl}:A6 Xa (G q) 156 2 30 Oi [(.cell 4 true 4)]:=fk Tryz.func156 (by kernel_rfl) (by kernel_rfl)
noncomputable def YS:An:=cm Tryz.f11 83
theorem sS {q:Gl}:A6 Xa (G q) 11 2 83 YS [(.cell 4 true 2),(.tmp 5),(.tmp 6)]:=fk Tryz.func11 (by kernel_rfl) (by kernel_rfl)
noncomputable def YT:An:=cm Tryz.f14 121
theorem sU {q:Gl}:A6 Xa (G q) 14 1 121 YT [(.tmp 2),(.tmp 3),(.tmp 4)]:=fk Tryz.func14 (by kernel_rfl) (by kernel_rfl)
noncomputable def YU:An:=cm Tryz.f17 52
theorem sV {q:Gl}:A6 Xa (G q) 17 1 52 YU [(.tmp 2),(.tmp 3)]:=fk Tryz.func17 (by kernel_rfl) (by kernel_rfl)
noncomputable def YV:An:=cm Tryz.f22 40
theorem sW {q:Gl}:A6 Xa (G q) 22 2 40 YV [(.tmp 4),(.tmp 5)]:=fk Tryz.func22 (by kernel_rfl) (by kernel_rfl)
noncomputable def YW:An:=cm Tryz.f23 44
theorem sX {q:Gl}:A6 Xa (G q) 23 2 44 YW [(.tmp 4)]:=fk Tryz.func23 (by kernel_rfl) (by kernel_rfl)
noncomputable def Gc:An:=cm Tryz.f29 28
theorem sY {q:Gl}:A6 Xa (G q) 29 1 28 Gc [(.tmp 2)]:=fk Tryz.func29 (by kernel_rfl) (by kernel_rfl)
noncomputable def YX:An:=cm Tryz.f30 49
theorem sZ {q:Gl}:A6 Xa (G q) 30 2 49 YX [(.tmp 4)]:=fk Tryz.func30 (by kernel_rfl) (by kernel_rfl)
noncomputable def YY:An:=cm Tryz.f31 121
theorem tA {q:Gl}:A6 Xa (G q) 31 3 121 YY [(.cell 6 true 10),(.tmp 7)]:=fk Tryz.func31 (by kernel_rfl) (by kernel_rfl)
noncomputable def YZ:An:=cm Tryz.f32 26
theorem tB {q:Gl}:A6 Xa (G q) 32 2 26 YZ [(.tmp 4)]:=fk Tryz.func32 (by kernel_rfl) (by kernel_rfl)
noncomputable def ZA:An:=cm Tryz.f34 21
theorem tC {q:Gl}:A6 Xa (G q) 34 2 21 ZA [(.tmp 4)]:=fk Tryz.func34 (by kernel_rfl) (by kernel_rfl)
noncomputable def ZB:An:=cm Tryz.f35 69
theorem tE {q:Gl}:A6 Xa (G q) 35 1 69 ZB [(.tmp 2)]:=fk Tryz.func35 (by kernel_rfl) (by kernel_rfl)
noncomputable def HL:An:=cm Tryz.f37 174
theorem IK {q:Gl}:A6 Xa (G q) 37 2 174 HL [(.tmp 4)]:=fk Tryz.func37 (by kernel_rfl) (by kernel_rfl)
noncomputable def ZC:An:=cm Tryz.f57 33
theorem tF {q:Gl}:A6 Xa (G q) 57 1 33 ZC [(.tmp 2),(.tmp 3)]:=fk Tryz.func57 (by kernel_rfl) (by kernel_rfl)
noncomputable def ZD:An:=cm Tryz.f58 44
theorem tG {q:Gl}:A6 Xa (G q) 58 2 44 ZD [(.cell 4 true 3),(.tmp 5)]:=fk Tryz.func58 (by kernel_rfl) (by kernel_rfl)
noncomputable def ZE:An:=cm Tryz.f59 55
theorem tH {q:Gl}:A6 Xa (G q) 59 2 55 ZE [(.cell 4 true 7),(.tmp 5)]:=fk Tryz.func59 (by kernel_rfl) (by kernel_rfl)
noncomputable def ZF:An:=cm Tryz.f60 41
theorem tI {q:Gl}:A6 Xa (G q) 60 2 41 ZF [(.cell 4 true 8),(.tmp 5)]:=fk Tryz.func60 (by kernel_rfl) (by kernel_rfl)
noncomputable def ZG:An:=cm Tryz.f61 46
theorem tJ {q:Gl}:A6 Xa (G q) 61 4 46 ZG [(.cell 8 true 10),(.tmp 9)]:=fk Tryz.func61 (by kernel_rfl) (by kernel_rfl)
noncomputable def ZH:An:=cm Tryz.f65 21
theorem tL {q:Gl}:A6 Xa (G q) 65 2 21 ZH [(.tmp 4)]:=fk Tryz.func65 (by kernel_rfl) (by kernel_rfl)
noncomputable def ZI:An:=cm Tryz.f66 6
theorem tM {q:Gl}:A6 Xa (G q) 66 1 6 ZI [(.tmp 2)]:=fk Tryz.func66 (by kernel_rfl) (by kernel_rfl)
noncomputable def ZJ:An:=cm Tryz.f67 21
theorem tN {q:Gl}:A6 Xa (G q) 67 2 21 ZJ [(.tmp 4)]:=fk Tryz.func67 (by kernel_rfl) (by kernel_rfl)
noncomputable def ZK:An:=cm Tryz.f68 50
theorem tO {q:Gl}:A6 Xa (G q) 68 1 50 ZK [(.tmp 2)]:=fk Tryz.func68 (by kernel_rfl) (by kernel_rfl)
noncomputable def ZL:An:=cm Tryz.f69 21
theorem tP {q:Gl}:A6 Xa (G q) 69 2 21 ZL [(.tmp 4)]:=fk Tryz.func69 (by kernel_rfl) (by kernel_rfl)
noncomputable def ZM:An:=cm Tryz.f70 34
theorem tQ {q:Gl}:A6 Xa (G q) 70 1 34 ZM [(.tmp 2)]:=fk Tryz.func70 (by kernel_rfl) (by kernel_rfl)
noncomputable def ZN:An:=cm Tryz.f71 21
theorem tR {q:Gl}:A6 Xa (G q) 71 2 21 ZN [(.tmp 4)]:=fk Tryz.func71 (by kernel_rfl) (by kernel_rfl)
noncomputable def ZO:An:=cm Tryz.f72 23
theorem tS {q:Gl}:A6 Xa (G q) 72 1 23 ZO [(.tmp 2)]:=fk Tryz.func72 (by kernel_rfl) (by kernel_rfl)
noncomputable def ZP:An:=cm Tryz.f73 21
theorem tT {q:Gl}:A6 Xa (G q) 73 2 21 ZP [(.tmp 4)]:=fk Tryz.func73 (by kernel_rfl) (by kernel_rfl)
noncomputable def ZQ:An:=cm Tryz.f74 45
theorem tU {q:Gl}:A6 Xa (G q) 74 1 45 ZQ [(.tmp 2)]:=fk Tryz.func74 (by kernel_rfl) (by kernel_rfl)
noncomputable def ZR:An:=cm Tryz.f75 21
theorem tV {q:Gl}:A6 Xa (G q) 75 2 21 ZR [(.tmp 4)]:=fk Tryz.func75 (by kernel_rfl) (by kernel_rfl)
noncomputable def ZS:An:=cm Tryz.f76 21
theorem tW {q:Gl}:A6 Xa (G q) 76 1 21 ZS [(.tmp 2)]:=fk Tryz.func76 (by kernel_rfl) (by kernel_rfl)
noncomputable def ZT:An:=cm Tryz.f77 6
theorem tX {q:Gl}:A6 Xa (G q) 77 1 6 ZT [(.tmp 2)]:=fk Tryz.func77 (by kernel_rfl) (by kernel_rfl)
noncomputable def ZU:An:=cm Tryz.f79 42
theorem tY {q:Gl}:A6 Xa (G q) 79 1 42 ZU [(.tmp 2)]:=fk Tryz.func79 (by kernel_rfl) (by kernel_rfl)
noncomputable def ZV:An:=cm Tryz.f81 36
theorem tZ {q:Gl}:A6 Xa (G q) 81 1 36 ZV [(.tmp 2)]:=fk Tryz.func81 (by kernel_rfl) (by kernel_rfl)
noncomputable def ZW:An:=cm Tryz.f82 36
theorem uA {q:Gl}:A6 Xa (G q) 82 1 36 ZW [(.tmp 2)]:=fk Tryz.func82 (by kernel_rfl) (by kernel_rfl)
noncomputable def ZX:An:=cm Tryz.f95 30
theorem uB {q:Gl}:A6 Xa (G q) 95 3 30 ZX [(.tmp 6)]:=fk Tryz.func95 (by kernel_rfl) (by kernel_rfl)
noncomputable def SP:An:=cm Tryz.f96 21
theorem uC {q:Gl}:A6 Xa (G q) 96 0 21 SP [(.tmp 2),(.tmp 3)]:=fk Tryz.func96 (by kernel_rfl) (by kernel_rfl)
noncomputable def Qu:An:=cm Tryz.f97 32
theorem uD {q:Gl}:A6 Xa (G q) 97 0 32 Qu [(.tmp 2),(.tmp 3)]:=fk Tryz.func97 (by kernel_rfl) (by kernel_rfl)
noncomputable def ZY:An:=cm Tryz.f100 43
theorem uE {q:Gl}:A6 Xa (G q) 100 2 43 ZY [(.cell 4 true 6),(.tmp 5)]:=fk Tryz.func100 (by kernel_rfl) (by kernel_rfl)
noncomputable def ZZ:An:=cm Tryz.f107 26
theorem uF {q:Gl}:A6 Xa (G q) 107 1 26 ZZ [(.tmp 2)]:=fk Tryz.func107 (by kernel_rfl) (by kernel_rfl)
noncomputable def aA:An:=cm Tryz.f117 29
theorem uG {q:Gl}:A6 Xa (G q) 117 1 29 aA [(.cell 2 true 4),(.tmp 3)]:=fk Tryz.func117 (by kernel_rfl) (by kernel_rfl)
noncomputable def aB:An:=cm Tryz.f13 38
theorem uH {q:Gl}:A6 Xa (G q) 13 2 38 aB [(.tmp 4)]:=fk Tryz.func13 (by kernel_rfl) (by kernel_rfl)
noncomputable def aC:An:=cm Tryz.f9 110
theorem uI {q:Gl}:A6 Xa (G q) 9 0 110 aC [(.tmp 0)]:=fk Tryz.func9 (by kernel_rfl) (by kernel_rfl)
end Go.Proofs.YtobnacghaamfoaaGreatDoor
