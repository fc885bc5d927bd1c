/-
 Auxiliary facts. No statement of the program stands here.
-/
import Derived.Test.YtbiadmfmjnoecaaVRQ13
import Derived.Test.YtbiadmfmjnoecaaProg
import Derived.Test.YtbiadmfmjnoecaaVRQ12
namespace Go.Proofs.Ytbiadmfmjnoecaa
set_option linter.unusedSimpArgs false
set_option linter.unusedVariables false
open Go Go.Abs
def G:A1f:=[]
abbrev zT:=Opd.tmp
abbrev zI (n:Int):Opd:=.k (.t (.v (.int .i64 n)))
abbrev zF:Opd:=.k (.t (.v (.bool false)))
abbrev zW:Opd:=.k (.t (.v (.bool true)))
abbrev zN:Opd:=.k (.t (.v (.slice none 0 0)))
abbrev zV (d s:Nat):Mini:=⟨some d,.mv,[.tmp s],none⟩
abbrev zM (d:Nat) (k:MK) (xs:List Opd):Mini:=⟨some d,k,xs,none⟩
set_option maxRecDepth 100000
def C5o:A0n:=(.seq (.ops [zM 2 .mv [zN],zM 3 .mv [(zI 0)]]) (.seq (.ops [zM 6 (.make 142 1 8 [(.int .u64 0)]) [(zI 64),(zI 64)],zV 4 6]) (.seq (.seq (.ops [zM 5 .mv [(zI 0)]]) (.block 0 (.loop (.seq (.seq (.ops [zV 7 5,zV 8 0,zM 9 .lensl [zT 8],zM 10 (.bin false .lss none) [zT 7,zT 9]]) (.cond (zT 10) .skip (.exit 0))) (.seq (.block 1 (.seq (.seq (.ops [zV 13 0,zV 14 5,zM 15 (.iaddr 1) [zT 13,zT 14],zM 16 (.load false 1) [zT 15],zM 17 (.bin false .lss none) [zT 16,(zI 0)],zV 18 17,⟨some 19,.mv,[zT 0],some (18,false)⟩,⟨some 20,.mv,[zT 5],some (18,false)⟩,⟨some 21,.iaddr 1,[zT 19,zT 20],some (18,false)⟩,⟨some 22,.load false 1,[zT 21],some (18,false)⟩,⟨some 23,.bin false .gtr none,[zT 22,(zI 4095)],some (18,false)⟩,zM 24 .pick [zT 18,zW,zT 23]]) (.cond (zT 24) (.seq (.ops [zM 2 .mv [zN],zM 3 .mv [(zI 2)]]) .ret) .skip)) (.draw [zV 25 4,zV 26 0,zV 27 5,zM 28 (.iaddr 1) [zT 26,zT 27],zM 29 (.load false 1) [zT 28],zM 30 (.bin false .quo none) [zT 29,(zI 64)],zV 31 4,zV 32 0,zV 33 5,zM 34 (.iaddr 1) [zT 32,zT 33],zM 35 (.load false 1) [zT 34],zM 36 (.bin false .quo none) [zT 35,(zI 64)],zM 37 (.iaddr 1) [zT 31,zT 36],zM 38 (.load false 1) [zT 37],zV 39 0,zV 40 5,zM 41 (.iaddr 1) [zT 39,zT 40],zM 42 (.load false 1) [zT 41],zM 43 (.bin false .rem none) [zT 42,(zI 64)],zM 44 (.conv (some .u64)) [zT 43],zM 45 (.bin false .shl none) [(.k (.t (.v (.int .u64 1)))),zT 44],zM 46 (.bin false .or none) [zT 38,zT 45],zM 47 (.iaddr 1) [zT 25,zT 30],⟨none,.store 1,[zT 47,zT 46],none⟩]))) (.ops [zV 11 5,zM 12 (.bin false .add none) [zT 11,(zI 1)],zV 5 12])))))) (.seq (.ops [zV 48 4,zM 49 (.call 117) [zT 48],zV 2 49,zM 3 .mv [(zI 0)]]) .ret))))
theorem D4j:FnOK Try.prog G 128 1 50 C5o [(.tmp 2),(.tmp 3)]:=⟨Try.f128,Try.func128,by kernel_rfl,by kernel_rfl,by kernel_rfl,by kernel_rfl⟩
def C2b:A0n:=(.seq (.ops [zM 4 .mv [zF]]) (.seq (.seq (.ops [zV 6 0,zM 7 .lensl [zT 6],zV 8 1,zM 9 .lensl [zT 8],zM 10 (.bin false .neq none) [zT 7,zT 9]]) (.cond (zT 10) (.seq (.ops [zM 4 .mv [zF]]) .ret) .skip)) (.seq (.seq (.ops [zM 5 .mv [(zI 0)]]) (.block 0 (.loop (.seq (.seq (.ops [zV 11 5,zV 12 0,zM 13 .lensl [zT 12],zM 14 (.bin false .lss none) [zT 11,zT 13]]) (.cond (zT 14) .skip (.exit 0))) (.seq (.block 1 (.seq (.draw [zV 17 0,zV 18 5,zM 19 (.iaddr 1) [zT 17,zT 18],zM 20 (.load false 1) [zT 19],zV 21 1,zV 22 5,zM 23 (.iaddr 1) [zT 21,zT 22],zM 24 (.load false 1) [zT 23],zM 25 (.bin false .neq none) [zT 20,zT 24]]) (.cond (zT 25) (.seq (.ops [zM 4 .mv [zF]]) .ret) .skip))) (.ops [zV 15 5,zM 16 (.bin false .add none) [zT 15,(zI 1)],zV 5 16])))))) (.seq (.ops [zM 4 .mv [zW]]) .ret))))
theorem D1z:FnOK Try.prog G 118 2 26 C2b [(.tmp 4)]:=⟨Try.f118,Try.func118,by kernel_rfl,by kernel_rfl,by kernel_rfl,by kernel_rfl⟩
def B6w:A0n:=(.seq (.ops [zM 4 .mv [zF]]) (.seq (.seq (.ops [zV 6 0,zM 7 .lensl [zT 6],zV 8 1,zM 9 .lensl [zT 8],zM 10 (.bin false .neq none) [zT 7,zT 9]]) (.cond (zT 10) (.seq (.ops [zM 4 .mv [zF]]) .ret) .skip)) (.seq (.seq (.ops [zM 5 .mv [(zI 0)]]) (.block 0 (.loop (.seq (.seq (.ops [zV 11 5,zV 12 0,zM 13 .lensl [zT 12],zM 14 (.bin false .lss none) [zT 11,zT 13]]) (.cond (zT 14) .skip (.exit 0))) (.seq (.block 1 (.seq (.draw [zV 17 0,zV 18 5,zM 19 (.iaddr 1) [zT 17,zT 18],zM 20 (.load false 1) [zT 19],zV 21 1,zV 22 5,zM 23 (.iaddr 1) [zT 21,zT 22],zM 24 (.load false 1) [zT 23],zM 25 (.bin false .neq none) [zT 20,zT 24]]) (.cond (zT 25) (.seq (.ops [zM 4 .mv [zF]]) .ret) .skip))) (.ops [zV 15 5,zM 16 (.bin false .add none) [zT 15,(zI 1)],zV 5 16])))))) (.seq (.ops [zM 4 .mv [zW]]) .ret))))
theorem D0m:FnOK Try.prog G 20 2 26 B6w [(.tmp 4)]:=⟨Try.f20,Try.func20,by kernel_rfl,by kernel_rfl,by kernel_rfl,by kernel_rfl⟩
def C2c:A0n:=(.seq (.ops [zM 2 .mv [zN]]) (.seq (.ops [zM 3 .mv [zN]]) (.seq (.seq (.ops [zM 4 .mv [(zI 0)]]) (.block 0 (.loop (.seq (.seq (.ops [zV 5 4,zV 6 0,zM 7 .lensl [zT 6],zM 8 (.bin false .mul none) [(zI 64),zT 7],zM 9 (.bin false .lss none) [zT 5,zT 8]]) (.cond (zT 9) .skip (.exit 0))) (.seq (.block 1 (.seq (.ops [zV 12 0,zV 13 4,zM 14 (.call 131) [zT 12,zT 13]]) (.cond (zT 14) (.ops [zV 15 3,zV 16 4,zM 17 (.bslice 3 1 [(.int .i64 0)] 1 [0]) [zT 16],zM 18 (.app 3 1 8) [zT 15,zT 17],zV 3 18]) .skip))) (.ops [zV 10 4,zM 11 (.bin false .add none) [zT 10,(zI 1)],zV 4 11])))))) (.seq (.ops [zV 19 3,zV 2 19]) .ret))))
theorem D2a:FnOK Try.prog G 141 1 20 C2c [(.tmp 2)]:=⟨Try.f141,Try.func141,by kernel_rfl,by kernel_rfl,by kernel_rfl,by kernel_rfl⟩
def C6k:A0n:=(.seq (.ops [zM 4 .mv [zN]]) (.seq (.ops [zM 5 .mv [zN]]) (.seq (.seq (.ops [zM 6 .mv [(zI 0)]]) (.block 0 (.loop (.seq (.seq (.ops [zV 7 6,zV 8 0,zM 9 .lensl [zT 8],zM 10 (.bin false .lss none) [zT 7,zT 9]]) (.cond (zT 10) .skip (.exit 0))) (.seq (.block 1 (.draw [zV 13 5,zV 14 0,zV 15 6,zM 16 (.iaddr 1) [zT 14,zT 15],zM 17 (.load false 1) [zT 16],zV 18 1,zV 19 6,zM 20 (.call 116) [zT 18,zT 19],zM 21 (.bin false .and none) [zT 17,zT 20],zM 22 (.tslice 142 1 [(.int .u64 0)] 1 [0]) [zT 21],zM 23 (.app 142 1 8) [zT 13,zT 22],zV 5 23])) (.ops [zV 11 6,zM 12 (.bin false .add none) [zT 11,(zI 1)],zV 6 12])))))) (.seq (.ops [zV 24 5,zM 25 (.call 117) [zT 24],zV 4 25]) .ret))))
theorem D8i:FnOK Try.prog G 89 2 26 C6k [(.tmp 4)]:=⟨Try.f89,Try.func89,by kernel_rfl,by kernel_rfl,by kernel_rfl,by kernel_rfl⟩
def C6l:A0n:=(.seq (.ops [zM 4 .mv [zN]]) (.seq (.ops [zV 7 0,zM 8 .lensl [zT 7],zV 9 1,zM 10 .lensl [zT 9],zM 11 .max [zT 8,zT 10],zM 12 (.make 142 1 8 [(.int .u64 0)]) [zT 11,zT 11],zV 5 12]) (.seq (.seq (.ops [zV 13 5,zM 14 .lensl [zT 13],zM 15 .mv [(zI 0)]]) (.block 0 (.loop (.seq (.ops [zM 16 (.bin false .lss none) [zT 15,zT 14]]) (.seq (.cond (zT 16) .skip (.exit 0)) (.seq (.block 1 (.seq (.ops [zV 17 15,zV 6 17]) (.ops [zV 18 5,zV 19 6,zV 20 0,zV 21 6,zM 22 (.call 94) [zT 20,zT 21],zV 23 1,zV 24 6,zM 25 (.call 94) [zT 23,zT 24],zM 26 (.bin false .or none) [zT 22,zT 25],zM 27 (.iaddr 1) [zT 18,zT 19],⟨none,.store 1,[zT 27,zT 26],none⟩]))) (.ops [zM 28 (.bin false .add none) [zT 15,(zI 1)],zV 15 28]))))))) (.seq (.ops [zV 29 5,zM 30 (.call 95) [zT 29],zV 4 30]) .ret))))
theorem D8j:FnOK Try.prog G 70 2 31 C6l [(.tmp 4)]:=⟨Try.f70,Try.func70,by kernel_rfl,by kernel_rfl,by kernel_rfl,by kernel_rfl⟩
def D4k:A0n:=(.seq (.ops [zM 4 .mv [zN]]) (.seq (.ops [zM 5 .mv [zN]]) (.seq (.seq (.ops [zM 6 .mv [(zI 0)]]) (.block 0 (.loop (.seq (.seq (.ops [zV 7 6,zV 8 0,zM 9 .lensl [zT 8],zV 10 1,zM 11 .lensl [zT 10],zM 12 .max [zT 9,zT 11],zM 13 (.bin false .lss none) [zT 7,zT 12]]) (.cond (zT 13) .skip (.exit 0))) (.seq (.block 1 (.ops [zV 16 5,zV 17 0,zV 18 6,zM 19 (.call 116) [zT 17,zT 18],zV 20 1,zV 21 6,zM 22 (.call 116) [zT 20,zT 21],zM 23 (.bin false .or none) [zT 19,zT 22],zM 24 (.bslice 142 1 [(.int .u64 0)] 1 [0]) [zT 23],zM 25 (.app 142 1 8) [zT 16,zT 24],zV 5 25])) (.ops [zV 14 6,zM 15 (.bin false .add none) [zT 14,(zI 1)],zV 6 15])))))) (.seq (.ops [zV 26 5,zM 27 (.call 117) [zT 26],zV 4 27]) .ret))))
theorem E6l:FnOK Try.prog G 88 2 28 D4k [(.tmp 4)]:=⟨Try.f88,Try.func88,by kernel_rfl,by kernel_rfl,by kernel_rfl,by kernel_rfl⟩
def B7v:A0n:=(.seq (.ops [zM 4 .mv [zN]]) (.seq (.ops [zM 5 .mv [zN]]) (.seq (.seq (.ops [zM 6 .mv [(zI 0)]]) (.block 0 (.loop (.seq (.seq (.ops [zV 7 6,zV 8 0,zM 9 .lensl [zT 8],zM 10 (.bin false .lss none) [zT 7,zT 9]]) (.cond (zT 10) .skip (.exit 0))) (.seq (.block 1 (.draw [zV 13 5,zV 14 0,zV 15 6,zM 16 (.iaddr 1) [zT 14,zT 15],zM 17 (.load false 1) [zT 16],zV 18 1,zV 19 6,zM 20 (.call 116) [zT 18,zT 19],zM 21 (.bin false .andNot none) [zT 17,zT 20],zM 22 (.tslice 142 1 [(.int .u64 0)] 1 [0]) [zT 21],zM 23 (.app 142 1 8) [zT 13,zT 22],zV 5 23])) (.ops [zV 11 6,zM 12 (.bin false .add none) [zT 11,(zI 1)],zV 6 12])))))) (.seq (.ops [zV 24 5,zM 25 (.call 117) [zT 24],zV 4 25]) .ret))))
theorem C6m:FnOK Try.prog G 111 2 26 B7v [(.tmp 4)]:=⟨Try.f111,Try.func111,by kernel_rfl,by kernel_rfl,by kernel_rfl,by kernel_rfl⟩
def B3p:A0n:=(.seq (.ops [zM 4 .mv [zF]]) (.seq (.seq (.ops [zV 5 1,zM 6 (.bin false .lss none) [zT 5,(zI 0)],zV 7 6,⟨some 8,.mv,[zT 1],some (7,false)⟩,⟨some 9,.bin false .quo none,[zT 8,(zI 64)],some (7,false)⟩,⟨some 10,.mv,[zT 0],some (7,false)⟩,⟨some 11,.lensl,[zT 10],some (7,false)⟩,⟨some 12,.bin false .geq none,[zT 9,zT 11],some (7,false)⟩,zM 13 .pick [zT 7,zW,zT 12]]) (.cond (zT 13) (.seq (.ops [zM 4 .mv [zF]]) .ret) .skip)) (.seq (.ops [zV 14 0,zV 15 1,zM 16 (.bin false .quo none) [zT 15,(zI 64)],zM 17 (.iaddr 1) [zT 14,zT 16],zM 18 (.load false 1) [zT 17],zV 19 1,zM 20 (.bin false .rem none) [zT 19,(zI 64)],zM 21 (.conv (some .u64)) [zT 20],zM 22 (.bin false .shr none) [zT 18,zT 21],zM 23 (.bin false .and none) [zT 22,(.k (.t (.v (.int .u64 1))))],zM 24 (.bin false .eql none) [zT 23,(.k (.t (.v (.int .u64 1))))],zV 4 24]) .ret)))
theorem C6n:FnOK Try.prog G 131 2 25 B3p [(.tmp 4)]:=⟨Try.f131,Try.func131,by kernel_rfl,by kernel_rfl,by kernel_rfl,by kernel_rfl⟩
def B1v:A0n:=(.seq (.ops [zM 4 .mv [zF]]) (.seq (.seq (.ops [zV 7 0,zM 8 .lensl [zT 7],zM 9 .mv [(zI 0)]]) (.block 0 (.loop (.seq (.ops [zM 10 (.bin false .lss none) [zT 9,zT 8]]) (.seq (.cond (zT 10) .skip (.exit 0)) (.seq (.block 1 (.seq (.ops [zV 11 9,zM 12 (.iaddr 1) [zT 7,zT 9],zM 13 (.load false 1) [zT 12],zV 5 11,zV 6 13]) (.seq (.ops [zV 14 6,zV 15 1,zV 16 5,zM 17 (.call 94) [zT 15,zT 16],zM 18 (.bin false .andNot none) [zT 14,zT 17],zM 19 (.bin false .neq none) [zT 18,(.k (.t (.v (.int .u64 0))))]]) (.cond (zT 19) (.seq (.ops [zM 4 .mv [zF]]) .ret) .skip)))) (.ops [zM 20 (.bin false .add none) [zT 9,(zI 1)],zV 9 20]))))))) (.seq (.ops [zM 4 .mv [zW]]) .ret)))
theorem B9v:FnOK Try.prog G 71 2 21 B1v [(.tmp 4)]:=⟨Try.f71,Try.func71,by kernel_rfl,by kernel_rfl,by kernel_rfl,by kernel_rfl⟩
def B3q:A0n:=(.seq (.ops [zM 4 .mv [zF]]) (.seq (.ops [zV 5 0,zV 6 1,zM 7 (.call 111) [zT 5,zT 6],zM 8 .lensl [zT 7],zM 9 (.bin false .eql none) [zT 8,(zI 0)],zV 4 9]) .ret))
theorem C3x:FnOK Try.prog G 81 2 10 B3q [(.tmp 4)]:=⟨Try.f81,Try.func81,by kernel_rfl,by kernel_rfl,by kernel_rfl,by kernel_rfl⟩
def B7w:A0n:=(.seq (.ops [zM 4 .mv [zF]]) (.seq (.ops [zV 5 0,zV 6 1,zM 7 (.call 81) [zT 5,zT 6],zV 8 7,⟨some 9,.mv,[zT 1],some (8,true)⟩,⟨some 10,.mv,[zT 0],some (8,true)⟩,⟨some 11,.call 81,[zT 9,zT 10],some (8,true)⟩,zM 12 .pick [zT 8,zT 11,zF],zV 4 12]) .ret))
theorem C6o:FnOK Try.prog G 130 2 13 B7w [(.tmp 4)]:=⟨Try.f130,Try.func130,by kernel_rfl,by kernel_rfl,by kernel_rfl,by kernel_rfl⟩
def B3r:A0n:=(.seq (.ops [zM 2 .mv [(zI 0)]]) (.seq (.ops [zM 3 .mv [(zI 0)]]) (.seq (.seq (.ops [zV 6 0,zM 7 .lensl [zT 6],zM 8 .mv [(zI 0)]]) (.block 0 (.loop (.seq (.ops [zM 9 (.bin false .lss none) [zT 8,zT 7]]) (.seq (.cond (zT 9) .skip (.exit 0)) (.seq (.block 1 (.seq (.ops [zM 10 (.iaddr 1) [zT 6,zT 8],zM 11 (.load false 1) [zT 10],zV 5 11]) (.ops [zV 12 3,zV 13 5,zM 14 (.call 96) [zT 13],zM 15 (.bin false .add none) [zT 12,zT 14],zV 3 15]))) (.ops [zM 16 (.bin false .add none) [zT 8,(zI 1)],zV 8 16]))))))) (.seq (.ops [zV 17 3,zV 2 17]) .ret))))
theorem C3y:FnOK Try.prog G 72 1 18 B3r [(.tmp 2)]:=⟨Try.f72,Try.func72,by kernel_rfl,by kernel_rfl,by kernel_rfl,by kernel_rfl⟩
def B7x:A0n:=(.seq (.ops [zM 2 .mv [(zI 0)]]) (.seq (.ops [zV 3 0,zM 4 (.call 141) [zT 3],zM 5 .lensl [zT 4],zV 2 5]) .ret))
theorem C6p:FnOK Try.prog G 133 1 6 B7x [(.tmp 2)]:=⟨Try.f133,Try.func133,by kernel_rfl,by kernel_rfl,by kernel_rfl,by kernel_rfl⟩
def B1w:A0n:=(.seq (.ops [zM 2 .mv [zN]]) (.seq (.ops [zV 4 0,zM 5 .lensl [zT 4],zV 3 5]) (.seq (.block 0 (.loop (.seq (.seq (.ops [zV 6 3,zM 7 (.bin false .gtr none) [zT 6,(zI 0)],zV 8 7,⟨some 9,.mv,[zT 0],some (8,true)⟩,⟨some 10,.mv,[zT 3],some (8,true)⟩,⟨some 11,.bin false .sub none,[zT 10,(zI 1)],some (8,true)⟩,⟨some 12,.iaddr 1,[zT 9,zT 11],some (8,true)⟩,⟨some 13,.load false 1,[zT 12],some (8,true)⟩,⟨some 14,.bin false .eql none,[zT 13,(.k (.t (.v (.int .u64 0))))],some (8,true)⟩,zM 15 .pick [zT 8,zT 14,zF]]) (.cond (zT 15) .skip (.exit 0))) (.block 1 (.ops [zV 16 3,zM 17 (.bin false .sub none) [zT 16,(zI 1)],zV 3 17]))))) (.seq (.ops [zV 18 0,zV 19 3,zM 20 (.slice 1 false true) [zT 18,zT 19],zV 2 20]) .ret))))
theorem B9w:FnOK Try.prog G 95 1 21 B1w [(.tmp 2)]:=⟨Try.f95,Try.func95,by kernel_rfl,by kernel_rfl,by kernel_rfl,by kernel_rfl⟩
def B3s:A0n:=(.seq (.ops [zM 2 .mv [zN]]) (.seq (.ops [zV 4 0,zM 5 .lensl [zT 4],zV 3 5]) (.seq (.block 0 (.loop (.seq (.seq (.ops [zV 6 3,zM 7 (.bin false .gtr none) [zT 6,(zI 0)],zV 8 7,⟨some 9,.mv,[zT 0],some (8,true)⟩,⟨some 10,.mv,[zT 3],some (8,true)⟩,⟨some 11,.bin false .sub none,[zT 10,(zI 1)],some (8,true)⟩,⟨some 12,.iaddr 1,[zT 9,zT 11],some (8,true)⟩,⟨some 13,.load false 1,[zT 12],some (8,true)⟩,⟨some 14,.bin false .eql none,[zT 13,(.k (.t (.v (.int .u64 0))))],some (8,true)⟩,zM 15 .pick [zT 8,zT 14,zF]]) (.cond (zT 15) .skip (.exit 0))) (.block 1 (.ops [zV 16 3,zM 17 (.bin false .sub none) [zT 16,(zI 1)],zV 3 17]))))) (.seq (.ops [zM 18 (.bslice 142 1 [(.int .u64 0)] 0 []) [],zV 19 0,zV 20 3,zM 21 (.slice 1 false true) [zT 19,zT 20],zM 22 (.app 142 1 8) [zT 18,zT 21],zV 2 22]) .ret))))
theorem C3z:FnOK Try.prog G 117 1 23 B3s [(.tmp 2)]:=⟨Try.f117,Try.func117,by kernel_rfl,by kernel_rfl,by kernel_rfl,by kernel_rfl⟩
def B5q:A0n:=(.seq (.ops [zM 4 .mv [(.k (.t (.v (.int .u64 0))))]]) (.seq (.seq (.ops [zV 5 1,zV 6 0,zM 7 .lensl [zT 6],zM 8 (.bin false .lss none) [zT 5,zT 7]]) (.cond (zT 8) (.seq (.ops [zV 9 0,zV 10 1,zM 11 (.iaddr 1) [zT 9,zT 10],zM 12 (.load false 1) [zT 11],zV 4 12]) .ret) .skip)) (.seq (.ops [zM 4 .mv [(.k (.t (.v (.int .u64 0))))]]) .ret)))
theorem C2d:FnOK Try.prog G 116 2 13 B5q [(.tmp 4)]:=⟨Try.f116,Try.func116,by kernel_rfl,by kernel_rfl,by kernel_rfl,by kernel_rfl⟩
def B1x:A0n:=(.seq (.ops [zM 4 .mv [(.k (.t (.v (.int .u64 0))))]]) (.seq (.seq (.ops [zV 5 1,zV 6 0,zM 7 .lensl [zT 6],zM 8 (.bin false .lss none) [zT 5,zT 7]]) (.cond (zT 8) (.seq (.ops [zV 9 0,zV 10 1,zM 11 (.iaddr 1) [zT 9,zT 10],zM 12 (.load false 1) [zT 11],zV 4 12]) .ret) .skip)) (.seq (.ops [zM 4 .mv [(.k (.t (.v (.int .u64 0))))]]) .ret)))
theorem B7y:FnOK Try.prog G 94 2 13 B1x [(.tmp 4)]:=⟨Try.f94,Try.func94,by kernel_rfl,by kernel_rfl,by kernel_rfl,by kernel_rfl⟩
def A5x:A0n:=(.seq (.ops [zM 2 .mv [(zI 0)]]) (.seq (.ops [zV 3 0,zM 4 (.bin false .shr none) [zT 3,(.k (.t (.v (.int .u64 1))))],zM 5 (.bin false .and none) [zT 4,(.k (.t (.v (.int .u64 6148914691236517205))))],zV 6 0,zM 7 (.bin false .and none) [zT 6,(.k (.t (.v (.int .u64 6148914691236517205))))],zM 8 (.bin false .add none) [zT 5,zT 7],zV 0 8]) (.seq (.ops [zV 9 0,zM 10 (.bin false .shr none) [zT 9,(.k (.t (.v (.int .u64 2))))],zM 11 (.bin false .and none) [zT 10,(.k (.t (.v (.int .u64 3689348814741910323))))],zV 12 0,zM 13 (.bin false .and none) [zT 12,(.k (.t (.v (.int .u64 3689348814741910323))))],zM 14 (.bin false .add none) [zT 11,zT 13],zV 0 14]) (.seq (.ops [zV 15 0,zM 16 (.bin false .shr none) [zT 15,(.k (.t (.v (.int .u64 4))))],zV 17 0,zM 18 (.bin false .add none) [zT 16,zT 17],zM 19 (.bin false .and none) [zT 18,(.k (.t (.v (.int .u64 1085102592571150095))))],zV 0 19]) (.seq (.ops [zV 20 0,zV 21 0,zM 22 (.bin false .shr none) [zT 21,(.k (.t (.v (.int .u64 8))))],zM 23 (.bin false .add none) [zT 20,zT 22],zV 0 23]) (.seq (.ops [zV 24 0,zV 25 0,zM 26 (.bin false .shr none) [zT 25,(.k (.t (.v (.int .u64 16))))],zM 27 (.bin false .add none) [zT 24,zT 26],zV 0 27]) (.seq (.ops [zV 28 0,zV 29 0,zM 30 (.bin false .shr none) [zT 29,(.k (.t (.v (.int .u64 32))))],zM 31 (.bin false .add none) [zT 28,zT 30],zV 0 31]) (.seq (.ops [zV 32 0,zM 33 (.conv (some .i64)) [zT 32],zM 34 (.bin false .and none) [zT 33,(zI 127)],zV 2 34]) .ret))))))))
theorem A9m:FnOK Try.prog G 96 1 35 A5x [(.tmp 2)]:=⟨Try.f96,Try.func96,by kernel_rfl,by kernel_rfl,by kernel_rfl,by kernel_rfl⟩
end Go.Proofs.Ytbiadmfmjnoecaa
namespace Go.Abs
set_option linter.unusedSimpArgs false
set_option linter.unusedVariables false
open Go
section
variable {P : Program} {G : A1f}
mutual
theorem D8k {L L':Loc} {w:World} {σ:Nat->Nat} {n:Nat} (hI:L'.I=L.I) (hμ:∀b,b<n->L'.μ (σ b)=L.μ b/\σ b<L'.nx):∀(p:PV) {u:Value},under n p=true->RepV P L w p u->RepV P L' w (ren σ p) u
 | .t x,u,_,h=>by simp only[ren,RepV,hI]at h ⊢;exact h
 | .row b o m z,u,hu,h=>by
  simp only[ren,RepV,under,decide_eq_true_eq]at h hu ⊢
  obtain⟨h1,h2⟩:=hμ b hu
  rw[h1]
  exact⟨h2,h.2⟩
 | .ptr b o,u,hu,h=>by
  simp only[ren,RepV,under,decide_eq_true_eq]at h hu ⊢
  obtain⟨h1,h2⟩:=hμ b hu
  rw[h1]
  exact⟨h2,h.2⟩
 | .ag cs,u,hu,h=>by
  simp only[ren,RepV,under]at h hu ⊢
  obtain⟨us,e,h1,hl⟩:=h
  exact⟨us,e,h1,C6q hI hμ cs hu hl⟩
 | .tu cs,u,hu,h=>by
  simp only[ren,RepV,under]at h hu ⊢
  obtain⟨us,e,hl⟩:=h
  exact⟨us,e,C6q hI hμ cs hu hl⟩
 | .fn f a c,u,hu,h=>by
  simp only[ren,RepV,under,Bool.and_eq_true]at h hu ⊢
  obtain⟨us,vs,e,h1,h2⟩:=h
  exact⟨us,vs,e,C6q hI hμ a hu.1 h1,C6q hI hμ c hu.2 h2⟩
 | .ic t x,u,hu,h=>by
  simp only[ren,RepV,under]at h hu ⊢
  obtain⟨y,e,hy⟩:=h
  exact⟨y,e,D8k hI hμ x hu hy⟩
 | .mp b,u,hu,h=>by
  simp only[ren,RepV,under,decide_eq_true_eq]at h hu ⊢
  obtain⟨h1,h2⟩:=hμ b hu
  rw[h1]
  exact⟨h2,h.2⟩
 | .dead,u,_,_=>by simp only[ren,RepV]
theorem C6q {L L':Loc} {w:World} {σ:Nat->Nat} {n:Nat} (hI:L'.I=L.I) (hμ:∀b,b<n->L'.μ (σ b)=L.μ b/\σ b<L'.nx):∀(ps:List PV) {us:List Value},A1z n ps=true->A1a P L w ps us->A1a P L' w (renL σ ps) us
 | [],us,_,h=>by simpa only[renL,A1a]using h
 | p::ps,us,hu,h=>by
  simp only[renL,A1a,A1z,Bool.and_eq_true]at h hu ⊢
  obtain⟨x,xs,e,hx,hxs⟩:=h
  exact⟨x,xs,e,D8k hI hμ p hu.1 hx,C6q hI hμ ps hu.2 hxs⟩
end
theorem F5f {L L':Loc} {w:World} {σ:Nat->Nat} {n g:Nat} (hI:L'.I=L.I) (hμ:∀b,b<n->L'.μ (σ b)=L.μ b/\σ b<L'.nx) {x:Row} (hu:A0z n x=true) (h:A4b P L w g x):A4b P L' w g (A2d σ x):=by
 cases x with
 | cells ty cs=>
  obtain⟨arr,ha,hl,hc⟩:=h
  refine⟨arr,ha,by rw[B1s];exact hl,fun j c hj=>?_⟩
  rw[A9l]at hj
  obtain⟨c0,hc0,rfl⟩:=A0v hj
  obtain⟨v,hv,h1,hr⟩:=hc j c0 hc0
  exact⟨v,hv,h1,D8k hI hμ c0 (A7f hu hc0) hr⟩
 | iter t pos=>exact h
 | map kk es=>exact h
 | lp l x k p=>exact⟨h.1,h.2.1,D8k hI hμ p hu h.2.2⟩
def A4s (σ:Nat->Nat) (nx NX:Nat) (b:Nat):Nat:=if b<nx then σ b else NX+(b-nx)
theorem A5s.lift {f:FuncId} {ps:List PV} {H H':Heap} {nx nx':Nat} {r:PV} (h:A5s P G f ps H nx r H' nx') (σ:Nat->Nat) (NX:Nat) (Hb Hb':Heap)
  (hσ:∀b,b<nx->σ b<NX) (hinj:∀b c,b<nx->c<nx->σ b=σ c->b=c) (hle:nx<=nx')
  (hH:∀q∈H,look Hb (σ q.1)=some (A2d σ q.2)/\q.1<nx/\A0z nx q.2=true) (hps:A1z nx ps=true)
  (hr:under nx' r=true) (hH':∀q∈H',q.1<nx'/\A0z nx' q.2=true)
  (hb':∀b x,look Hb' b=some x->(∃b0 x0,look H' b0=some x0/\b=A4s σ nx NX b0/\x=A2d (A4s σ nx NX) x0)\/(look Hb b=some x/\∀b0 x0,look H b0=some x0->σ b0≠b)) :
  A5s P G f (renL σ ps) Hb NX (ren (A4s σ nx NX) r) Hb' (NX+(nx'-nx)):=by
 refine⟨h.1,fun L w us hok hnx hargs=>?_⟩
 let L0:Loc:=⟨L.I,fun b=>L.μ (σ b),nx⟩
 have hok0:A1o P G L0 H w:=by
  refine⟨hok.lt,fun b x hb=>?_,fun b x hb=>?_,fun b b' x x' hb hb' e=>?_,fun b x hb=>(hH _ (A0p hb)).2.1,hok.glob⟩
  ·obtain⟨h1,h2,h3⟩:=hH _ (A0p hb)
   have:=hok.rep _ _ h1
   cases x with
   | cells ty cs=>
    obtain⟨arr,ha,hl,hc⟩:=this
    refine⟨arr,ha,by rw[B1s]at hl;exact hl,fun j c hj=>?_⟩
    obtain⟨v,hv,h1v,hrv⟩:=hc j (ren σ c) (by rw[A9l,hj];rfl)
    exact⟨v,hv,h1v,B7t c (A7f h3 hj) hrv⟩
   | iter t pos=>exact this
   | map kk es=>exact this
   | lp l x k p=>exact⟨this.1,this.2.1,B7t p h3 this.2.2⟩
  ·exact hok.apart _ _ (hH _ (A0p hb)).1
  ·exact hinj b b' (hH _ (A0p hb)).2.1 (hH _ (A0p hb')).2.1 (hok.inj _ _ _ _ (hH _ (A0p hb)).1 (hH _ (A0p hb')).1 e)
 have mine0:∀g,Mine L0 H g->Mine L Hb g:=fun g ⟨b,x,hb,e⟩=>⟨σ b,_,(hH _ (A0p hb)).1,e⟩
 refine(h.2 L0 w us hok0 rfl (B5p ps hps hargs)).mono ?_
 rintro e w' ⟨v,L1,rfl,hv,hok1,hnx1,hm1,hx1⟩
 let L':Loc:=⟨L1.I,fun b=>if b<NX then L.μ b else L1.μ (b-NX+nx),NX+(nx'-nx)⟩
 have hμ:∀b,b<nx'->L'.μ (A4s σ nx NX b)=L1.μ b/\A4s σ nx NX b<L'.nx:=by
  intro b hb
  unfold A4s
  by_cases hlt:b<nx
  ·rw[if_pos hlt]
   have h1:=hσ b hlt
   refine⟨?_,by show σ b<NX+(nx'-nx);omega⟩
   show(if σ b<NX then L.μ (σ b)else _)=_
   rw[if_pos h1]
   exact(hm1.μ b hlt).symm
  ·rw[if_neg hlt]
   refine⟨?_,by show NX+(b-nx)<NX+(nx'-nx);omega⟩
   show(if NX+(b-nx)<NX then _ else L1.μ (NX+(b-nx)-NX+nx))=_
   rw[if_neg (by omega)]
   congr 1
   omega
 have hmono:Mono L w L' w':=by
  refine⟨hm1.keeps,by show L.nx<=NX+(nx'-nx);omega,fun b hb=>?_,hm1.size,hm1.shape⟩
  show(if b<NX then L.μ b else _)=_
  rw[if_pos (by omega)]
 have old:∀b x,look Hb b=some x->(∀b0 x0,look H b0=some x0->σ b0≠b)->¬Mine L0 H (L.μ b):=by
  intro b x hb hne ⟨b0,x0,h0,e⟩
  exact hne b0 x0 h0 (hok.inj _ _ _ _ (hH _ (A0p h0)).1 hb e)
 have oldμ:∀b x,look Hb b=some x->L'.μ b=L.μ b:=by
  intro b x hb
  have:=hok.nx b x hb
  show(if b<NX then L.μ b else _)=_
  rw[if_pos (by omega)]
 have newμ:∀b0 x0,look H' b0=some x0->L'.μ (A4s σ nx NX b0)=L1.μ b0:=fun b0 x0 h0=>(hμ b0 (hH' _ (A0p h0)).1).1
 refine⟨v,L',rfl,D8k (L:=L1) (L':=L') rfl hμ r hr hv,?_,rfl,hmono,?_⟩
 ·refine⟨hok1.lt,fun b x hb=>?_,fun b x hb hI=>?_,fun b b2 x x2 hb hb2 e=>?_,fun b x hb=>?_,hok1.glob⟩
  ·rcases hb' b x hb with⟨b0,x0,h0,rfl,rfl⟩ | ⟨h0,hne⟩
   ·rw[newμ b0 x0 h0]
    exact F5f (L:=L1) (L':=L') rfl hμ (hH' _ (A0p h0)).2 (hok1.rep b0 x0 h0)
   ·rw[oldμ b x h0]
    exact(hok.rep b x h0).keep hmono (hx1.same _ (hok.rep b x h0).lt (old b x h0 hne))
  ·rcases hb' b x hb with⟨b0,x0,h0,rfl,rfl⟩ | ⟨h0,hne⟩
   ·rw[newμ b0 x0 h0]at hI
    exact hok1.apart b0 x0 h0 hI
   ·rw[oldμ b x h0]at hI
    rcases hx1.new _ hI with h2 | h2 | h2
    ·exact hok.apart b x h0 h2
    ·have:=(hok.rep b x h0).lt;omega
    ·exact old b x h0 hne h2
  ·rcases hb' b x hb with⟨b0,x0,h0,rfl,rfl⟩ | ⟨h0,hne⟩<;>rcases hb' b2 x2 hb2 with⟨c0,y0,k0,rfl,rfl⟩ | ⟨k0,kne⟩
   ·rw[newμ b0 x0 h0,newμ c0 y0 k0]at e
    rw[hok1.inj b0 c0 x0 y0 h0 k0 e]
   ·rw[newμ b0 x0 h0,oldμ _ _ k0]at e
    rcases hx1.mine (L.μ b2) ⟨b0,x0,h0,e⟩with h2 | h2
    ·have:=(hok.rep b2 x2 k0).lt;omega
    ·exact absurd h2 (old b2 x2 k0 kne)
   ·rw[oldμ _ _ h0,newμ c0 y0 k0]at e
    rcases hx1.mine (L.μ b) ⟨c0,y0,k0,e.symm⟩with h2 | h2
    ·have:=(hok.rep b x h0).lt;omega
    ·exact absurd h2 (old b x h0 hne)
   ·rw[oldμ _ _ h0,oldμ _ _ k0]at e
    exact hok.inj b b2 x x2 h0 k0 e
  ·rcases hb' b x hb with⟨b0,x0,h0,rfl,rfl⟩ | ⟨h0,hne⟩
   ·exact(hμ b0 (hH' _ (A0p h0)).1).2
   ·have:=hok.nx b x h0
    show b<NX+(nx'-nx)
    omega
 ·refine⟨hx1.size,fun g hg hm=>hx1.same g hg (fun h2=>hm (mine0 g h2)),hx1.more,fun g hg=>?_,fun g ⟨b,x,hb,e⟩=>?_,hx1.shape,hx1.outer⟩
  ·rcases hx1.new g hg with h2 | h2 | h2
   ·exact .inl h2
   ·exact .inr (.inl h2)
   ·exact .inr (.inr (mine0 g h2))
  ·rcases hb' b x hb with⟨b0,x0,h0,rfl,rfl⟩ | ⟨h0,hne⟩
   ·rw[newμ b0 x0 h0]at e
    rcases hx1.mine g ⟨b0,x0,h0,e⟩with h2 | h2
    ·exact .inl h2
    ·exact .inr (mine0 g h2)
   ·rw[oldμ _ _ h0]at e
    exact .inr ⟨b,x,h0,e⟩
end
structure Ty (α:Type) where
 is:T->α->Prop
 uniq:∀t a b,is t a->is t b->a=b
noncomputable def Ty.dec {α:Type} (τ:Ty α) (t:T):Option α:=
 open Classical in if h : ∃ a, τ.is t a then some h.choose else none
theorem Ty.dec_is {α:Type} {τ:Ty α} {t:T} {a:α} (h:τ.is t a):τ.dec t=some a:=by
 unfold Ty.dec
 have hx:∃a,τ.is t a:=⟨a,h⟩
 rw[dif_pos hx]
 rw[τ.uniq t _ _ hx.choose_spec h]
theorem Ty.is_dec {α:Type} {τ:Ty α} {t:T} {a:α} (h:τ.dec t=some a):τ.is t a:=by
 unfold Ty.dec at h
 split at h
 ·rename_i hx
  injection h with h
  subst h
  exact hx.choose_spec
 ·cases h
abbrev iv (n:Int):T:=.v (.int .i64 n)
abbrev bv (b:Bool):T:=.v (.bool b)
abbrev sv (s:ByteArray):T:=.v (.string s)
abbrev nilS:T:=.v (.slice none 0 0)
def tInt:Ty Int:=⟨fun t n=>t=iv n,fun t a b h h'=>by rw[h]at h';injection h' with h';injection h'⟩
def F0m:Ty Bool:=⟨fun t n=>t=bv n,fun t a b h h'=>by rw[h]at h';injection h' with h';injection h'⟩
def tStr:Ty ByteArray:=⟨fun t n=>t=sv n,fun t a b h h'=>by rw[h]at h';injection h' with h';injection h'⟩
structure Enc (α:Type) where
 z:Nat
 enc:α->List T
 len:∀a,(enc a).length=z
 pos:0<z
 inj:∀a b,enc a=enc b->a=b
def slT {α:Type} (e:Enc α) (l:List α):T:=.sl l.length (l.flatMap e.enc)
def IsS {α:Type} (e:Enc α) (t:T) (l:List α):Prop:=(t=nilS/\l=[])\/t=slT e l
theorem C6r {α:Type} (e:Enc α):∀(l m:List α),l.length=m.length->l.flatMap e.enc=m.flatMap e.enc->l=m
 | [],[],_,_=>rfl
 | [],_::_,h,_=>by simp at h
 | _::_,[],h,_=>by simp at h
 | a::l,b::m,h,he=>by
  simp only[List.flatMap_cons]at he
  have h1:=List.append_inj he (by rw[e.len,e.len])
  rw[e.inj a b h1.1,C6r e l m (by simpa using h) h1.2]
def tSl {α:Type} (e:Enc α):Ty (List α):=⟨IsS e,fun t a b h h'=>by
 rcases h with⟨rfl,rfl⟩ | rfl
 ·rcases h' with⟨_,rfl⟩ | h'
  ·rfl
  ·cases h'
 ·rcases h' with⟨h',_⟩ | h'
  ·cases h'
  ·unfold slT at h'
   injection h' with h1 h2
   exact C6r e a b h1 h2⟩
def tAg {α:Type} (e:Enc α):Ty α:=⟨fun t a=>t = .ag (e.enc a),fun t a b h h'=>by rw[h]at h';injection h' with h';exact e.inj a b h'⟩
def eInt:Enc Int:=⟨1,fun n=>[iv n],fun _=>rfl,by omega,fun a b h=>by injection h with h;injection h with h;injection h⟩
def eStr:Enc ByteArray:=⟨1,fun n=>[sv n],fun _=>rfl,by omega,fun a b h=>by injection h with h;injection h with h;injection h⟩
def A6k:Enc Bool:=⟨1,fun n=>[bv n],fun _=>rfl,by omega,fun a b h=>by injection h with h;injection h with h;injection h⟩
section
variable {α : Type} {e : Enc α} {t : T} {l : List α}
theorem IsS.len (h:IsS e t l):B0r (.t t)=some (.t (iv (l.length:Int))):=by
 rcases h with⟨rfl,rfl⟩ | rfl<;>rfl
def rest (e:Enc α) (l:List α) (i:Nat):List T:=(l.drop (i+1)).flatMap e.enc
theorem B3t (e:Enc α):∀(l:List α) (i:Nat) (x:α),l[i]?=some x->(l.flatMap e.enc).drop (i*e.z)=e.enc x++rest e l i
 | [],i,x,h=>by simp at h
 | a::l,0,x,h=>by
  simp at h;subst h
  simp[rest]
 | a::l,i+1,x,h=>by
  have ih:=B3t e l i x (by simpa using h)
  rw[List.flatMap_cons,Nat.succ_mul,Nat.add_comm,<-List.drop_drop,List.drop_left' (e.len a),ih]
  simp[rest]
theorem IsS.iaddr (h:IsS e t l) {i:Nat} {x:α} (hx:l[i]?=some x) (k:IntKind):A1q e.z (.t t) (.t (.v (.int k (i:Int))))=some (.t (.pt (e.enc x++rest e l i))):=by
 have hi:i<l.length:=(List.getElem?_eq_some_iff.1 hx).1
 rcases h with⟨rfl,rfl⟩ | rfl
 ·simp at hi
 ·simp only[A1q,slT]
  rw[if_pos ⟨by omega,by omega⟩,Int.toNat_natCast,B3t e l i x hx]
theorem IsS.nil:IsS e nilS []:=.inl ⟨rfl,rfl⟩
theorem IsS.mk (l:List α):IsS e (slT e l) l:=.inr rfl
end
noncomputable def g1 {α:Type} (τ:Ty α) (f:α->Option T):List T->Option T
 | [a]=>(τ.dec a).bind f
 | _=>none
noncomputable def g2 {α β:Type} (τ:Ty α) (σ:Ty β) (f:α->β->Option T):List T->Option T
 | [a,b]=>(τ.dec a).bind fun x=>(σ.dec b).bind fun y=>f x y
 | _=>none
noncomputable def g3 {α β γ:Type} (τ:Ty α) (σ:Ty β) (ρ:Ty γ) (f:α->β->γ->Option T):List T->Option T
 | [a,b,c]=>(τ.dec a).bind fun x=>(σ.dec b).bind fun y=>(ρ.dec c).bind fun z=>f x y z
 | _=>none
noncomputable def g4 {α β γ δ:Type} (τ:Ty α) (σ:Ty β) (ρ:Ty γ) (π:Ty δ) (f:α->β->γ->δ->Option T):List T->Option T
 | [a,b,c,d]=>(τ.dec a).bind fun x=>(σ.dec b).bind fun y=>(ρ.dec c).bind fun z=>(π.dec d).bind fun u=>f x y z u
 | _=>none
section
variable {P : Program} {G : A1f} {F : FuncId} {α β γ δ : Type} {τ : Ty α} {σ : Ty β} {ρ : Ty γ} {π : Ty δ}
theorem C4w {f:α->Option T} (h:∀a x r,τ.is a x->f x=some r->A0y P G F [a] (· = r)):GOK P G F (g1 τ f):=by
 intro args r e
 unfold g1 at e
 split at e
 ·obtain⟨x,hx,e⟩:=Option.bind_eq_some_iff.1 e
  exact h _ x r (Ty.is_dec hx) e
 ·cases e
theorem C4x {f:α->Option T} {a:T} {x:α} (h:τ.is a x):g1 τ f [a]=f x:=by
 simp only[g1,Ty.dec_is h,Option.bind_some]
theorem A6w {f:α->β->Option T} (h:∀a b x y r,τ.is a x->σ.is b y->f x y=some r->A0y P G F [a,b] (· = r)):GOK P G F (g2 τ σ f):=by
 intro args r e
 unfold g2 at e
 split at e
 ·obtain⟨x,hx,e⟩:=Option.bind_eq_some_iff.1 e
  obtain⟨y,hy,e⟩:=Option.bind_eq_some_iff.1 e
  exact h _ _ x y r (Ty.is_dec hx) (Ty.is_dec hy) e
 ·cases e
theorem A5y {f:α->β->Option T} {a b:T} {x:α} {y:β} (h:τ.is a x) (h':σ.is b y):g2 τ σ f [a,b]=f x y:=by
 simp only[g2,Ty.dec_is h,Ty.dec_is h',Option.bind_some]
theorem F0n {f:α->β->γ->Option T} (h:∀a b c x y z r,τ.is a x->σ.is b y->ρ.is c z->f x y z=some r->A0y P G F [a,b,c] (· = r)):GOK P G F (g3 τ σ ρ f):=by
 intro args r e
 unfold g3 at e
 split at e
 ·obtain⟨x,hx,e⟩:=Option.bind_eq_some_iff.1 e
  obtain⟨y,hy,e⟩:=Option.bind_eq_some_iff.1 e
  obtain⟨z,hz,e⟩:=Option.bind_eq_some_iff.1 e
  exact h _ _ _ x y z r (Ty.is_dec hx) (Ty.is_dec hy) (Ty.is_dec hz) e
 ·cases e
theorem F0o {f:α->β->γ->Option T} {a b c:T} {x:α} {y:β} {z:γ} (h:τ.is a x) (h':σ.is b y) (h'':ρ.is c z):g3 τ σ ρ f [a,b,c]=f x y z:=by
 simp only[g3,Ty.dec_is h,Ty.dec_is h',Ty.dec_is h'',Option.bind_some]
theorem H0r {f:α->β->γ->δ->Option T} (h:∀a b c d x y z u r,τ.is a x->σ.is b y->ρ.is c z->π.is d u->f x y z u=some r->A0y P G F [a,b,c,d] (· = r)):GOK P G F (g4 τ σ ρ π f):=by
 intro args r e
 unfold g4 at e
 split at e
 ·obtain⟨x,hx,e⟩:=Option.bind_eq_some_iff.1 e
  obtain⟨y,hy,e⟩:=Option.bind_eq_some_iff.1 e
  obtain⟨z,hz,e⟩:=Option.bind_eq_some_iff.1 e
  obtain⟨u,hu,e⟩:=Option.bind_eq_some_iff.1 e
  exact h _ _ _ _ x y z u r (Ty.is_dec hx) (Ty.is_dec hy) (Ty.is_dec hz) (Ty.is_dec hu) e
 ·cases e
theorem H0s {f:α->β->γ->δ->Option T} {a b c d:T} {x:α} {y:β} {z:γ} {u:δ} (h:τ.is a x) (h':σ.is b y) (h'':ρ.is c z) (h3:π.is d u):g4 τ σ ρ π f [a,b,c,d]=f x y z u:=by
 simp only[g4,Ty.dec_is h,Ty.dec_is h',Ty.dec_is h'',Ty.dec_is h3,Option.bind_some]
end
section
variable {α : Type}
def rowP (e:Enc α) (b:Nat):List α->PV
 | []=>.t nilS
 | l=>.row b 0 l.length e.z
def rowH (e:Enc α) (ty b:Nat):List α->Heap
 | []=>[]
 | l=>[(b,.cells ty ((l.flatMap e.enc).map .t))]
def A0k (e:Enc α):List α->T
 | []=>nilS
 | l=>slT e l
def B1y (b:Nat):List α->List Nat
 | []=>[]
 | _=>[b]
theorem IsS.tree (e:Enc α) (l:List α):IsS e (A0k e l) l:=by
 cases l with
 | nil=>exact .inl ⟨rfl,rfl⟩
 | cons x r=>exact .inr rfl
theorem A2e (e:Enc α):∀l:List α,(l.flatMap e.enc).length=l.length*e.z
 | []=>by simp
 | a::l=>by rw[List.flatMap_cons,List.length_append,e.len,A2e e l,List.length_cons,Nat.succ_mul,Nat.add_comm]
theorem A0g (e:Enc α) (σ:Nat->Nat) (b:Nat) (l:List α):ren σ (rowP e b l)=rowP e (σ b) l:=by cases l<;>rfl
theorem A0e (e:Enc α) (n b:Nat) (l:List α) (h:b<n):under n (rowP e b l)=true:=by
 cases l with
 | nil=>rfl
 | cons x r=>simp[rowP,under,h]
end
section
variable {α : Type} {P : Program} {G : A1f} {B : Nat}
def A1g (e:Enc α) (ty:Nat) (l:List α):Row:=.cells ty ((l.flatMap e.enc).map .t)
def A0j (e:Enc α) (ty:Nat) (H:Heap) (b:Nat) (l:List α):Prop:=l=[]\/look H b=some (A1g e ty l)
theorem A0j.nil (e:Enc α) (ty:Nat) (H:Heap) (b:Nat):A0j e ty H b []:=.inl rfl
theorem A0j.cons {e:Enc α} {ty:Nat} {H:Heap} {b:Nat} {l:List α} (h:A0j e ty H b l) {k:Nat} {r:Row} (hk:k≠b):A0j e ty ((k,r)::H) b l:=
 h.imp id fun h=>by rw[look_cons,if_neg hk];exact h
theorem A0j.head (e:Enc α) (ty:Nat) (H:Heap) (b:Nat) (l:List α):A0j e ty (rowH e ty b l++H) b l:=by
 cases l with
 | nil=>exact .inl rfl
 | cons x r=>right;simp[rowH,A1g]
theorem A0j.head' (e:Enc α) (ty b:Nat) (l:List α):A0j e ty (rowH e ty b l) b l:=by
 have h:=A0j.head e ty [] b l
 rwa[List.append_nil]at h
def appH (e:Enc α) (ty:Nat) (H:Heap) (nx b:Nat) (l m:List α):Heap:=
 if(l++m).isEmpty then H else(nx,A1g e ty (l++m))::(if l.isEmpty then H else rem H b)
def appN (nx:Nat) (l m:List α):Nat:=if(l++m).isEmpty then nx else nx+1
theorem F5g {e:Enc α} {ty by':Nat} {H:Heap} {nx b:Nat} {l m:List α} {src:PV} (h:A0j e ty H b l) (hs:srcP H e.z src=some (m.length,(m.flatMap e.enc).map .t))
  (hb:(l.length+m.length)*by'<=140737488355328) (hb2:l.length+m.length<=9223372036854775807) :
  appM ty e.z by' H nx (rowP e b l) src=some (rowP e nx (l++m),appH e ty H nx b l m,appN nx l m):=by
 cases l with
 | nil=>
  cases m with
  | nil=>simp[appM,hs,rowP,appH,appN]
  | cons y m=>
   simp only[List.length_nil,Nat.zero_add]at hb hb2
   have h0:¬(y::m).length=0:=by simp
   simp only[appM,hs,rowP,List.nil_append,appH,appN,List.isEmpty_cons,List.isEmpty_nil,Bool.false_eq_true,if_false,if_true,and_self,h0,hb,hb2,A1g]
 | cons x l=>
  rcases h with h | h
  ·cases h
  ·have hl:(((x::l).flatMap e.enc).map PV.t).length=(x::l).length*e.z:=by rw[List.length_map,A2e]
   simp only[appM,hs,rowP,h,A1g,hl,true_and,if_pos (And.intro hb hb2),List.cons_append,appH,appN,List.isEmpty_cons,Bool.false_eq_true,if_false]
   simp
   omega
theorem F5h {e:Enc α} {ty:Nat} {H:Heap} {nx b:Nat} {l m:List α} {c:Nat} (hc:c≠nx) (hb:c≠b):look (appH e ty H nx b l m) c=look H c:=by
 unfold appH
 split
 ·rfl
 ·rw[look_cons,if_neg (Ne.symm hc)]
  split
  ·rfl
  ·rw[A1m,if_neg hb]
theorem A0j.app {e:Enc α} {ty:Nat} {H:Heap} {nx b:Nat} {l m:List α}:A0j e ty (appH e ty H nx b l m) nx (l++m):=by
 unfold appH
 split
 ·rename_i h;left;simpa using h
 ·right;rw[look_cons,if_pos rfl]
theorem A0j.toT {e:Enc α} {ty:Nat} {H:Heap} {b:Nat} {l:List α} (h:A0j e ty H b l):toT H (rowP e b l)=some (A0k e l,B1y b l):=by
 cases l with
 | nil=>rfl
 | cons x r=>
  rcases h with h | h
  ·cases h
  ·have hl:(((x::r).flatMap e.enc).map PV.t).length=(x::r).length*e.z:=by rw[List.length_map,A2e]
   have tk:List.take ((x::r).length*e.z) (((x::r).flatMap e.enc).map PV.t)=((x::r).flatMap e.enc).map PV.t:=List.take_of_length_le (by rw[hl];exact Nat.le_refl _)
   simp only[rowP,Abs.toT,h,A1g,List.drop_zero,Nat.zero_add,hl,Nat.le_refl,if_true,tk,allT_map_t,Option.map_some]
   rfl
theorem A2f (e:Enc α) (b:Nat) (l:List α):B0r (rowP e b l)=some (.t (iv (l.length:Int))):=by cases l<;>rfl
theorem A3r {e:Enc α} {H:Heap} {b ty:Nat} (x:α) (h:look H b=some (.cells ty ((e.enc x).map .t))):srcP H e.z (.row b 0 1 e.z)=some ([x].length,([x].flatMap e.enc).map .t):=by
 have hl:((e.enc x).map PV.t).length=e.z:=by rw[List.length_map,e.len]
 have tk:List.take e.z ((e.enc x).map PV.t)=(e.enc x).map PV.t:=List.take_of_length_le (by rw[hl];exact Nat.le_refl _)
 simp[srcP,h,e.len,tk]
theorem A3f {e:Enc α} {H:Heap} {t:T} {l:List α} (h:IsS e t l):srcP H e.z (.t t)=some (l.length,(l.flatMap e.enc).map .t):=by
 rcases h with⟨rfl,rfl⟩ | rfl
 ·rfl
 ·simp only[srcP,slT,A2e,if_true]
theorem A1l (σ:Nat->Nat) (e:Enc α) (ty:Nat) (l:List α):A2d σ (A1g e ty l)=A1g e ty l:=by
 have:∀m:List T,renL σ (m.map .t)=m.map .t:=by
  intro m
  induction m with
  | nil=>rfl
  | cons x m ih=>simp only[List.map_cons,renL,ren,ih]
 simp only[A1g,A2d,this]
theorem A0t (n:Nat) (e:Enc α) (ty:Nat) (l:List α):A0z n (A1g e ty l)=true:=by
 have:∀m:List T,A1z n (m.map .t)=true:=by
  intro m
  induction m with
  | nil=>rfl
  | cons x m ih=>simp only[List.map_cons,A1z,under,ih,Bool.and_self]
 simp only[A1g,A0z,this]
theorem A1j {e:Enc α} {ty b:Nat} {l:List α} {q:Nat×Row} (h:q∈rowH e ty b l):l≠[]/\q=(b,A1g e ty l):=by
 cases l with
 | nil=>simp[rowH]at h
 | cons x r=>simp only[rowH,List.mem_singleton]at h;exact⟨by simp,h⟩
theorem A0i {e:Enc α} {ty b k nx nx' n:Nat} {l:List α} {env env':List (Nat×PV)} {H:Heap} (h:A0j e ty H k l) (hb:b<nx') (hB:B<=b)
  (he:∀q∈env',look env q.1=some (ren (fun c=>if c=b then k else c) q.2)/\under nx' q.2=true) :
  Sub P G B ⟨env,H,nx,n⟩ ⟨env',rowH e ty b l,nx',n⟩:=by
 refine B1t (fun c=>if c=b then k else c) rfl (by show B<=nx';omega) (fun c hc=>by show(if c=b then k else c)=c;rw[if_neg (by omega)]) he (fun q hq=>?_) (fun q hq q' hq' _=>?_)
 ·obtain⟨hne,rfl⟩:=A1j hq
  simp only[if_true,A1l,A0t]
  rcases h with h | h
  ·exact absurd h hne
  ·exact⟨h,hb,trivial⟩
 ·obtain⟨_,rfl⟩:=A1j hq
  obtain⟨_,rfl⟩:=A1j hq'
  rfl
theorem B1z {β:Type} {e:Enc α} {e':Enc β} {ty ty' b b' k k' nx nx' n:Nat} {l:List α} {l':List β} {env env':List (Nat×PV)} {H:Heap} (h:A0j e ty H k l) (h':A0j e' ty' H k' l') (hb:b<nx') (hb':b'<nx') (hB:B<=b) (hB':B<=b')
  (hne:b≠b') (hk:k≠k') (he:∀q∈env',look env q.1=some (ren (fun c=>if c=b then k else if c=b' then k' else c) q.2)/\under nx' q.2=true) :
  Sub P G B ⟨env,H,nx,n⟩ ⟨env',rowH e ty b l++rowH e' ty' b' l',nx',n⟩:=by
 refine B1t (fun c=>if c=b then k else if c=b' then k' else c) rfl (by show B<=nx';omega) (fun c hc=>by show(if c=b then k else if c=b' then k' else c)=c;rw[if_neg (by omega),if_neg (by omega)]) he (fun q hq=>?_) (fun q hq q' hq' hx=>?_)
 ·rcases List.mem_append.1 hq with hq | hq
  ·obtain⟨hn,rfl⟩:=A1j hq
   simp only[if_true,A1l,A0t]
   rcases h with h | h
   ·exact absurd h hn
   ·exact⟨h,hb,trivial⟩
  ·obtain⟨hn,rfl⟩:=A1j hq
   simp only[if_neg (Ne.symm hne),if_true,A1l,A0t]
   rcases h' with h' | h'
   ·exact absurd h' hn
   ·exact⟨h',hb',trivial⟩
 ·rcases List.mem_append.1 hq with hq | hq<;>rcases List.mem_append.1 hq' with hq' | hq'
  ·obtain⟨_,rfl⟩:=A1j hq
   obtain⟨_,rfl⟩:=A1j hq'
   rfl
  ·obtain⟨_,rfl⟩:=A1j hq
   obtain⟨_,rfl⟩:=A1j hq'
   simp only[if_true,if_neg (Ne.symm hne)]at hx
   exact absurd hx hk
  ·obtain⟨_,rfl⟩:=A1j hq
   obtain⟨_,rfl⟩:=A1j hq'
   simp only[if_true,if_neg (Ne.symm hne)]at hx
   exact absurd hx.symm hk
  ·obtain⟨_,rfl⟩:=A1j hq
   obtain⟨_,rfl⟩:=A1j hq'
   rfl
theorem B9x {nx nx' n:Nat} {env env':List (Nat×PV)} {H:Heap} (hB:B<=nx') (he:∀q∈env',look env q.1=some q.2/\under 0 q.2=true) :
  Sub P G B ⟨env,H,nx,n⟩ ⟨env',[],nx',n⟩:=by
 have key:∀(p:PV),under 0 p=true->ren id p=p/\under nx' p=true:=by
  intro p hp
  constructor
  ·have:(∀p:PV,ren id p=p)/\(∀ps:List PV,renL id ps=ps):=by
    constructor
    ·intro p
     exact PV.rec (motive_1:=fun p=>ren id p=p) (motive_2:=fun ps=>renL id ps=ps) (fun x=>rfl) (fun b o n z=>rfl) (fun b o=>rfl) (fun cs ih=>by simp only[ren,ih]) (fun cs ih=>by simp only[ren,ih])
      (fun f a c ih1 ih2=>by simp only[ren,ih1,ih2]) (fun t x ih=>by simp only[ren,ih]) (fun b=>rfl) rfl rfl (fun p ps h1 h2=>by simp only[renL,h1,h2]) p
    ·intro ps
     exact PV.rec_1 (motive_1:=fun p=>ren id p=p) (motive_2:=fun ps=>renL id ps=ps) (fun x=>rfl) (fun b o n z=>rfl) (fun b o=>rfl) (fun cs ih=>by simp only[ren,ih]) (fun cs ih=>by simp only[ren,ih])
      (fun f a c ih1 ih2=>by simp only[ren,ih1,ih2]) (fun t x ih=>by simp only[ren,ih]) (fun b=>rfl) rfl rfl (fun p ps h1 h2=>by simp only[renL,h1,h2]) ps
   exact this.1 p
  ·exact(PV.rec (motive_1:=fun p=>under 0 p=true->under nx' p=true) (motive_2:=fun ps=>A1z 0 ps=true->A1z nx' ps=true) (fun x _=>rfl) (fun b o n z h=>by simp[under]at h) (fun b o h=>by simp[under]at h)
    (fun cs ih h=>by simp only[under]at h ⊢;exact ih h) (fun cs ih h=>by simp only[under]at h ⊢;exact ih h) (fun f a c ih1 ih2 h=>by simp only[under,Bool.and_eq_true]at h ⊢;exact⟨ih1 h.1,ih2 h.2⟩)
    (fun t x ih h=>by simp only[under]at h ⊢;exact ih h) (fun b h=>by simp[under]at h) (fun _=>rfl) (fun _=>rfl) (fun p ps h1 h2 h=>by simp only[A1z,Bool.and_eq_true]at h ⊢;exact⟨h1 h.1,h2 h.2⟩) p) hp
 refine B1t id rfl hB (fun _ _=>rfl) (fun q hq=>?_) (fun q hq=>by simp at hq) (fun q hq=>by simp at hq)
 obtain⟨h1,h2⟩:=he q hq
 obtain⟨h3,h4⟩:=key q.2 h2
 rw[h3]
 exact⟨h1,h4⟩
end
end Go.Abs
namespace Go.Proofs.Ytbiadmfmjnoecaa
set_option linter.unusedSimpArgs false
set_option linter.unusedVariables false
open Go Go.Abs
theorem A1u:Try.prog.follows .mixedOrders=true:=by kernel_rfl
abbrev W:=BitVec 64
def uv (x:W):T:=.v (.int .u64 (x.toNat:Int))
def nilT:T:=.v (.slice none 0 0)
def encB (l:List W):T:=.sl l.length (l.map uv)
def decU:T->Option W
 | .v (.int .u64 n)=>if 0<=n/\n<18446744073709551616 then some (BitVec.ofNat 64 n.toNat)else none
 | _=>none
def E2m:List T->Option (List W)
 | []=>some []
 | t::ts=>match decU t,E2m ts with
  | some x,some xs=>some (x::xs)
  | _,_=>none
def decB:T->Option (List W)
 | .v (.slice none 0 0)=>some []
 | .sl n cs=>if n=cs.length then E2m cs else none
 | _=>none
theorem D8l {t:T} {x:W} (h:decU t=some x):t=uv x:=by
 unfold decU at h
 split at h
 ·rename_i n
  split at h
  ·rename_i hn
   injection h with h
   subst h
   unfold uv
   rw[BitVec.toNat_ofNat,Nat.mod_eq_of_lt (by omega)]
   congr 2
   omega
  ·cases h
 ·cases h
theorem D4l (x:W):decU (uv x)=some x:=by
 unfold uv decU
 have:=x.isLt
 simp only
 rw[if_pos ⟨by omega,by omega⟩]
 simp
theorem D2b:∀{ts:List T} {xs:List W},E2m ts=some xs->ts=xs.map uv
 | [],xs,h=>by simp only[E2m,Option.some.injEq]at h;simp[<-h]
 | t::ts,xs,h=>by
  simp only[E2m]at h
  split at h
  ·rename_i x xs' hx hxs
   injection h with h;subst h
   simp[D8l hx,D2b hxs]
  ·cases h
theorem D8m:∀(xs:List W),E2m (xs.map uv)=some xs
 | []=>rfl
 | x::xs=>by simp only[List.map_cons,E2m,D4l,D8m xs]
theorem A1h (l:List W):decB (encB l)=some l:=by
 unfold encB decB
 simp[D8m]
theorem B5r {t:T} {l:List W} (h:decB t=some l):(t=nilT/\l=[])\/t=encB l:=by
 unfold decB at h
 split at h
 ·injection h with h;exact .inl ⟨rfl,h.symm⟩
 ·rename_i n cs
  split at h
  ·rename_i hn
   have:=D2b h
   subst this
   right
   unfold encB
   simp at hn
   rw[hn]
  ·cases h
 ·cases h
section
variable {t : T} {l : List W}
theorem A1v (h:decB t=some l):B0r (.t t)=some (.t (.v (.int .i64 (l.length:Int)))):=by
 rcases B5r h with⟨rfl,rfl⟩ | rfl
 ·rfl
 ·rfl
theorem A2g (h:decB t=some l) (k:IntKind) (i:Int) (h0:0<=i) (h1:i<l.length):A1q 1 (.t t) (.t (.v (.int k i)))=some (.t (.pt ((l.map uv).drop i.toNat))):=by
 rcases B5r h with⟨rfl,rfl⟩ | rfl
 ·simp at h1;omega
 ·simp only[A1q,encB]
  rw[if_pos ⟨h0,h1⟩]
  simp
end
theorem A2k {l:List W} {i:Nat} {x:W} (H:Heap) (h:l[i]?=some x):A0f false 1 H (.t (.pt ((l.map uv).drop i)))=some (.t (uv x)):=by
 simp[A0f,h]
def wd (l:List W) (i:Nat):W:=l.getD i 0
theorem ctx0:Ctx Try.prog G (orc []):=A1t.nil.ctx A1u
theorem G1y {b:T} {l:List W} (hb:decB b=some l) (i:Nat):A0y Try.prog G 94 [b,.v (.int .i64 (i:Int))] (· = uv (wd l i)):=by
 by_cases hi:i<l.length
 ·have hx:l[i]?=some (wd l i):=by simp[wd,hi]
  refine B7y.runs ctx0 rfl ?_
  simp -implicitDefEqProofs [B1x,A1v hb,A2g hb,A2k _ hx,hi]
 ·refine B7y.runs ctx0 rfl ?_
  have hw:wd l i=0:=by simp[wd,hi]
  simp -implicitDefEqProofs [B1x,A1v hb,hi,hw,uv]
def A1x (l:List W):List W:=(l.reverse.dropWhile (· == 0)).reverse
theorem D2c {l:List W} {a:Nat} (ha:a<l.length) (h:l[a]?=some 0):A1x (l.take (a+1))=A1x (l.take a):=by
 rw[List.take_add_one,h]
 simp -implicitDefEqProofs [A1x]
theorem D2d {l:List W} {a:Nat} {x:W} (h:l[a]?=some x) (hx:x≠0):A1x (l.take (a+1))=l.take (a+1):=by
 rw[List.take_add_one,h]
 have:(x==0)=false:=by simpa using hx
 simp -implicitDefEqProofs only[A1x,Option.toList_some,List.reverse_append,List.reverse_cons,List.reverse_nil,List.nil_append,List.cons_append,List.dropWhile_cons,this,Bool.false_eq_true,if_false,List.reverse_reverse]
def Sn (N:Nat) (t:T) (a:Nat):A0b:=⟨[(3,.t (.v (.int .i64 (a:Int)))),(0,.t t)],[],0,N⟩
theorem F0p (l:List W) (hl:l.length<9223372036854775808):A0y Try.prog G 95 [encB l] (· = encB (A1x l)):=by
 have hb:=A1h l
 refine B9w.call rfl ?_
 unfold B1w
 refine A0a ctx0 ?_
 simp -implicitDefEqProofs
 refine A0a ctx0 ?_
 simp -implicitDefEqProofs [A1v hb]
 refine A0s (Sn 21 (encB l)) (fun a=>a<=l.length/\A1x l=l.take a) (fun _=>rfl) ?_ ?_
 ·refine A0h ?_
  refine A2o (Sn 21 (encB l)) id (fun a=>a<=l.length/\A1x (l.take a)=A1x l) l.length (fun _=>rfl) ⟨Nat.le_refl _,by simp⟩ ?_ rfl ?_
  ·refine A0c rfl rfl ?_ ?_<;>simp -implicitDefEqProofs [Sn]
  ·rintro a ⟨ha,hn⟩
   refine A0d ctx0 ?_
   cases a with
   | zero=>
    simp -implicitDefEqProofs [Sn]
    refine Next.mk 0 ?_ (A0c rfl rfl ?_ ?_)
    ·exact⟨by omega,by rw[<-hn];simp[A1x]⟩
    all_goals simp -implicitDefEqProofs [Sn]
   | succ a=>
    have e1:IntKind.i64.wrap (a:Int)=(a:Int):=A8h (by omega) (by omega)
    obtain⟨x,hx⟩:∃x,l[a]?=some x:=⟨_,List.getElem?_eq_getElem (by omega)⟩
    have ha':a<l.length:=by omega
    by_cases h0:x=0
    ·subst h0
     simp -implicitDefEqProofs [Sn,e1,A2g hb,A2k _ hx,ha',uv]
     refine Next.mk a ?_ (A0c rfl rfl ?_ ?_)
     ·exact⟨⟨by omega,by rw[<-hn,D2c ha' hx]⟩,by simp⟩
     all_goals simp -implicitDefEqProofs [Sn]
    ·have h0':((x.toNat:Int)==0)=false:=by
      rw[beq_eq_false_iff_ne]
      exact fun h=>h0 (BitVec.eq_of_toNat_eq (by simpa using h))
     simp -implicitDefEqProofs [Sn,e1,A2g hb,A2k _ hx,ha',uv,h0']
     refine Next.mk (a+1) ?_ (A0c rfl rfl ?_ ?_)
     ·exact⟨by omega,by rw[<-hn,D2d hx h0]⟩
     all_goals simp -implicitDefEqProofs [Sn]
 ·rintro a ⟨ha,hn⟩
  refine A0d ctx0 ?_
  simp -implicitDefEqProofs [Sn,encB,A4e,ha,hn]
def tw (x:W):PV:=.t (uv x)
@[simp] theorem cellsP_uv (x:W):A0w (.t (uv x))=some [.t (uv x)]:=rfl
def part (f:Nat->W) (n j:Nat):List W:=(List.range n).map fun i=>if i<j then f i else 0
theorem C6s (f:Nat->W) (n j:Nat):(part f n j).length=n:=by simp[part]
theorem F5i (f:Nat->W) (n:Nat):part f n 0=List.replicate n 0:=by
 apply List.ext_getElem<;>simp[part]
theorem G1z (f:Nat->W) (n j:Nat):(part f n j).set j (f j)=part f n (j+1):=by
 apply List.ext_getElem
 ·simp[part]
 ·intro i h1 h2
  simp only[part,List.getElem_set,List.getElem_map,List.getElem_range]
  by_cases h:j=i
  ·subst h;simp
  ·rw[if_neg h]
   congr 1
   apply propext
   omega
theorem G2a (f:Nat->W) (n:Nat):part f n n=(List.range n).map f:=by
 apply List.ext_getElem
 ·simp[part]
 ·intro i h1 h2
  simp only[part,List.length_map,List.length_range]at h1
  simp[part,h1]
theorem D4m (n:Nat):A9j [.int .u64 0] n=(List.replicate n (0:W)).map tw:=by
 simp[A9j,tw,uv]
theorem E6m (l:List W) (i:Nat) (x:W) (h:i<l.length) (ty b:Nat):A1e 1 [(b,.cells ty (l.map tw))] (.ptr b i) (.t (uv x))=some [(b,.cells ty ((l.set i x).map tw))]:=by
 have h':i+1<=l.length:=by omega
 simp -implicitDefEqProofs [A1e,A1y,h',List.map_set,tw]
theorem E2n (l:List W):allT (l.map tw)=some (l.map uv):=by
 have:l.map tw=(l.map uv).map PV.t:=by simp[tw]
 rw[this,allT_map_t]
section
variable {Φ : A1c} {H : Heap} {nx : Nat}
@[simp] theorem iaddr_row (b o n z':Nat) (k:IntKind) (i:Int) (h0:0<=i) (h1:i<n):A1q 1 (.row b o n z') (.t (.v (.int k i)))=some (.ptr b (o+i.toNat)):=by
 simp[A1q,h0,h1]
@[simp] theorem uv_and (isB:Bool) (nk:Option NK) (x y:W):A0m Φ H nx (.bin isB .and nk) [.t (uv x),.t (uv y)]=some (.t (uv (x&&&y)),H,nx):=by
 simp only[uv,evalK_and,kbits_u64,A5f,B0u];rfl
@[simp] theorem uv_or (isB:Bool) (nk:Option NK) (x y:W):A0m Φ H nx (.bin isB .or nk) [.t (uv x),.t (uv y)]=some (.t (uv (x|||y)),H,nx):=by
 simp only[uv,evalK_or,kbits_u64,A5f,B0u];rfl
@[simp] theorem uv_xor (isB:Bool) (nk:Option NK) (x y:W):A0m Φ H nx (.bin isB .xor nk) [.t (uv x),.t (uv y)]=some (.t (uv (x ^^^ y)),H,nx):=by
 simp only[uv,evalK_xor,kbits_u64,A5f,B0u];rfl
@[simp] theorem uv_andNot (isB:Bool) (nk:Option NK) (x y:W):A0m Φ H nx (.bin isB .andNot nk) [.t (uv x),.t (uv y)]=some (.t (uv (x &&& ~~~ y)),H,nx):=by
 simp only[uv,evalK_andNot,kbits_u64,A5f,B0u];rfl
end
def C2e:List T->Option T
 | [t]=>match decB t with
  | some l=>if l.length<9223372036854775808 then(match t with | .sl _ _=>some (encB (A1x l)) | _=>none)else none
  | none=>none
 | _=>none
theorem F5j:GOK Try.prog G 95 C2e:=by
 intro args r h
 unfold C2e at h
 split at h
 ·rename_i t
  split at h
  ·rename_i l hl
   split at h
   ·rename_i hlt
    split at h
    ·injection h with h;subst h
     rcases B5r hl with⟨h1,_⟩ | h1
     ·cases h1
     ·rw[h1];exact F0p l hlt
    ·cases h
   ·cases h
  ·cases h
 ·cases h
theorem E2o (l:List W) (h:l.length<9223372036854775808):C2e [encB l]=some (encB (A1x l)):=by
 have:=A1h l
 unfold C2e
 simp only[this,h,if_true]
 rfl
theorem F0q (l:List W) (n:Nat) (hn:n=l.length) (h:l.length<9223372036854775808):C2e [.sl n (l.map uv)]=some (encB (A1x l)):=by
 subst hn;exact E2o l h
def D8n:List T->Option T
 | [t,.v (.int .i64 i)]=>match decB t with
  | some l=>if 0<=i then some (uv (wd l i.toNat))else none
  | none=>none
 | _=>none
theorem G7e:GOK Try.prog G 94 D8n:=by
 intro args r h
 unfold D8n at h
 split at h
 ·split at h
  ·rename_i i l hl
   split at h
   ·rename_i h0
    injection h with h;subst h
    obtain⟨n,rfl⟩:=Int.eq_ofNat_of_zero_le h0
    exact G1y hl n
   ·cases h
  ·cases h
 ·cases h
theorem A8i {t:T} {l:List W} (h:decB t=some l) (i:Nat):D8n [t,.v (.int .i64 (i:Int))]=some (uv (wd l i)):=by
 simp[D8n,h]
def tb1:Tbl:=[(95,C2e),(94,D8n)]
theorem ctx1:Ctx Try.prog G (orc tb1):=(A1t.cons F5j (A1t.cons G7e A1t.nil)).ctx A1u
def andL (l m:List W):List W:=(List.range (min l.length m.length)).map fun i=>wd l i&&&wd m i
def S17 (a b:T) (n:Nat) (f:Nat->W) (j:Nat):A0b:=
 ⟨[(15,.t (.v (.int .i64 (j:Int)))),(14,.t (.v (.int .i64 (n:Int)))),(5,.row 0 0 n 1),(1,.t b),(0,.t a)],[(0,.cells 142 ((part f n j).map tw))],1,31⟩
def orL (l m:List W):List W:=(List.range (max l.length m.length)).map fun i=>wd l i|||wd m i
theorem G7f {a b:T} {l m:List W} (ha:decB a=some l) (hb:decB b=some m) (hl:l.length<=1000) (hm:m.length<=1000):A0y Try.prog G 70 [a,b] (· = encB (A1x (orL l m))):=by
 refine D8j.call rfl ?_
 unfold C6l
 refine A0a ctx1 ?_
 simp -implicitDefEqProofs
 refine A0a ctx1 ?_
 obtain⟨n,hn⟩:∃n,n=max l.length m.length:=⟨_,rfl⟩
 have hmin:(if l.length<m.length then(m.length:Int)else(l.length:Int))=(n:Int):=by split<;>omega
 have hb1:(8:Int)*(n:Int)<=281474976710656:=by omega
 have hb2:(n:Int)<=9223372036854775807:=by omega
 simp -implicitDefEqProofs [A1v ha,A1v hb,B9p,hmin,hb1,hb2,D4m]
 refine A0s (fun _:Unit=>S17 a b n (fun i=>wd l i|||wd m i) n) (fun _=>True) (fun _=>rfl) ?_ ?_
 ·refine A0a ctx1 ?_
  simp -implicitDefEqProofs [B0r]
  refine A0h ?_
  refine A1b (S17 a b n (fun i=>wd l i|||wd m i)) n (fun _=>rfl) ?_ rfl ?_ ?_
  ·refine A0c rfl rfl ?_ ?_<;>simp -implicitDefEqProofs [S17,F5i]
  ·intro j hj
   refine A0d ctx1 ?_
   have w1:=A8i ha j
   have w2:=A8i hb j
   have e1:IntKind.i64.wrap ((j:Int)+1)=((j+1:Nat):Int):=A0l (by omega) (by omega)
   have st:=E6m (part (fun i=>wd l i|||wd m i) n j) j (wd l j|||wd m j) (by rw[C6s];exact hj) 142 0
   rw[G1z (fun i=>wd l i|||wd m i)]at st
   simp -implicitDefEqProofs [S17,hj,w1,w2,tb1,st,e1]
   refine A0c rfl rfl ?_ ?_<;>simp -implicitDefEqProofs
  ·refine A0d ctx1 ?_
   simp -implicitDefEqProofs [S17]
   refine Next.mk () trivial (A0c rfl rfl ?_ ?_)<;>simp -implicitDefEqProofs
 ·rintro _ -
  refine A0d ctx1 ?_
  have hp:part (fun i=>wd l i|||wd m i) n n=orL l m:=by rw[G2a,orL,<-hn]
  have hz:(orL l m).length=n:=by rw[<-hp,C6s]
  have gn:=F0q (orL l m) n hz.symm (by omega)
  have tk:List.take n ((orL l m).map tw)=(orL l m).map tw:=List.take_of_length_le (by simp[hz])
  simp -implicitDefEqProofs [S17,hp,hz,E2n,gn,tb1,tk]
def D8o (l m:List W):List W:=(List.range (l.length)).map fun i=>wd l i &&& ~~~ wd m i
end Go.Proofs.Ytbiadmfmjnoecaa
