/-
 Auxiliary facts. No statement of the program stands here.
-/
import Derived.Test.YtbiadmfmjnoecaaVRQ33
import Derived.Test.YtbiadmfmjnoecaaVRQ34
import Derived.Test.YtbiadmfmjnoecaaVRQ36
import Derived.Test.YtbiadmfmjnoecaaVRQ37
import Derived.Test.YtbiadmfmjnoecaaVRQ14
import Derived.Test.YtbiadmfmjnoecaaVRQ12
import Derived.Test.YtbiadmfmjnoecaaVRQ32
import Derived.Test.YtbiadmfmjnoecaaVRQ29
import Derived.Test.YtbiadmfmjnoecaaVRQ35
namespace Go.Proofs.Ytbiadmfmjnoecaa
set_option linter.unusedSimpArgs false
set_option linter.unusedVariables false
open Go Go.Abs
set_option maxRecDepth 100000
def hdC:Code->Code
 | .seq x _=>x
 | c=>c
def tlC:Code->Code
 | .seq _ y=>y
 | c=>c
def inC:Code->Code
 | .block _ c=>c
 | .loop c=>c
 | c=>c
def yesC:Code->Code
 | .cond _ x _=>x
 | c=>c
def E4w:Code->Array Oper
 | .region _ ops _=>ops
 | _=>#[]
def idC:Code->Nat
 | .region k _ _=>k
 | _=>0
noncomputable def b93:Code:=match Try.f93.body with
 | some c=>c
 | none=>.skip
noncomputable def B93:Code:=inC (inC (tlC (tlC (tlC (tlC b93)))))
noncomputable def K93:Code:=inC (hdC (tlC B93))
noncomputable def E93:Code:=inC (inC (tlC (tlC K93)))
noncomputable def g93:Code:=inC (hdC (tlC (tlC E93)))
noncomputable def E1h:Code:=yesC (tlC (tlC g93))
noncomputable def o93Y:Array Oper:=E4w (hdC (hdC K93))
noncomputable def o93Z:Array Oper:=E4w (tlC (tlC E1h))
theorem E8q:Try.f93.body=some b93:=by kernel_rfl
theorem H1n:b93 = .seq (hdC b93) (.seq (hdC (tlC b93)) (.seq (hdC (tlC (tlC b93))) (.seq (hdC (tlC (tlC (tlC b93)))) (.block 0 (.loop B93))))):=by kernel_rfl
theorem H1o:B93 = .seq (hdC B93) (.seq (.block 1 K93) (tlC (tlC B93))):=by kernel_rfl
theorem H1p:K93 = .seq (.seq (.region (idC (hdC (hdC K93))) o93Y true) (tlC (hdC K93))) (.seq (hdC (tlC K93)) (.block 2 (.loop E93))):=by kernel_rfl
theorem G6h:E93 = .seq (hdC E93) (.seq (hdC (tlC E93)) (.seq (.block 3 g93) (tlC (tlC (tlC E93))))):=by kernel_rfl
theorem H1q:g93 = .seq (hdC g93) (.seq (hdC (tlC g93)) (.cond (.tmp 53) E1h .skip)):=by kernel_rfl
theorem G4r:E1h = .seq (hdC E1h) (.seq (hdC (tlC E1h)) (.region (idC (tlC (tlC E1h))) o93Z true)):=by kernel_rfl
def H1r:A0n:=(.ops [⟨(some 9),(.faddr 0),[(.tmp 1)],none⟩,⟨(some 10),(.load false 1),[(.tmp 9)],none⟩,⟨(some 11),.lensl,[(.tmp 10)],none⟩,⟨(some 12),(.make 4 1 1 [(.bool false)]),[(.tmp 11),(.tmp 11)],none⟩,⟨(some 3),.mv,[(.tmp 12)],none⟩])
def H1s:A0n:=(.ops [⟨(some 13),.mv,[(.tmp 3)],none⟩,⟨(some 14),(.iaddr 1),[(.tmp 13),(.k (.t (.v (.int .i64 0))))],none⟩,⟨none,(.store 1),[(.tmp 14),(.k (.t (.v (.bool true))))],none⟩])
def H1t:A0n:=(.ops [⟨(some 15),(.bslice 3 1 [(.int .i64 0)] 1 [0]),[(.k (.t (.v (.int .i64 0))))],none⟩,⟨(some 16),(.bslice 33 1 [(.slice none 0 0)] 1 [0]),[(.k (.t (.v (.slice none 0 0))))],none⟩,⟨(some 4),.mv,[(.tmp 15)],none⟩,⟨(some 5),.mv,[(.tmp 16)],none⟩])
def H1u:A0n:=(.ops [⟨(some 6),.mv,[(.k (.t (.v (.int .i64 0))))],none⟩])
def H1v:A0n:=(.seq (.ops [⟨(some 17),.mv,[(.tmp 6)],none⟩,⟨(some 18),.mv,[(.tmp 4)],none⟩,⟨(some 19),.lensl,[(.tmp 18)],none⟩,⟨(some 20),(.bin false .lss none),[(.tmp 17),(.tmp 19)],none⟩]) (.cond (.tmp 20) .skip (.exit 0)))
def G6i:A0n:=(.ops [⟨(some 21),.mv,[(.tmp 6)],none⟩,⟨(some 22),(.bin false .add none),[(.tmp 21),(.k (.t (.v (.int .i64 1))))],none⟩,⟨(some 6),.mv,[(.tmp 22)],none⟩])
def H1w:A0n:=(.cond (.tmp 33) .ret .skip)
def H1x:A0n:=(.draw [⟨(some 34),(.faddr 0),[(.tmp 1)],none⟩,⟨(some 35),(.load false 1),[(.tmp 34)],none⟩,⟨(some 36),.mv,[(.tmp 4)],none⟩,⟨(some 37),.mv,[(.tmp 6)],none⟩,⟨(some 38),(.iaddr 1),[(.tmp 36),(.tmp 37)],none⟩,⟨(some 39),(.load false 1),[(.tmp 38)],none⟩,⟨(some 40),(.iaddr 2),[(.tmp 35),(.tmp 39)],none⟩,⟨(some 41),(.faddr 1),[(.tmp 40)],none⟩,⟨(some 42),(.load false 1),[(.tmp 41)],none⟩,⟨(some 43),.lensl,[(.tmp 42)],none⟩,⟨(some 44),.mv,[(.k (.t (.v (.int .i64 0))))],none⟩])
def G8x:A0n:=(.ops [⟨(some 45),(.bin false .lss none),[(.tmp 44),(.tmp 43)],none⟩])
def G8y:A0n:=(.cond (.tmp 45) .skip (.exit 2))
def H1y:A0n:=(.ops [⟨(some 75),(.bin false .add none),[(.tmp 44),(.k (.t (.v (.int .i64 1))))],none⟩,⟨(some 44),.mv,[(.tmp 75)],none⟩])
def H1z:A0n:=(.ops [⟨(some 46),(.iaddr 2),[(.tmp 42),(.tmp 44)],none⟩,⟨(some 47),(.load true 2),[(.tmp 46)],none⟩,⟨(some 8),(.alloc 81 [(.int .i64 0),(.int .i64 0)]),[],none⟩,⟨none,(.store 2),[(.tmp 8),(.tmp 47)],none⟩])
def H2a:A0n:=(.ops [⟨(some 48),.mv,[(.tmp 3)],none⟩,⟨(some 49),(.faddr 1),[(.tmp 8)],none⟩,⟨(some 50),(.load false 1),[(.tmp 49)],none⟩,⟨(some 51),(.iaddr 1),[(.tmp 48),(.tmp 50)],none⟩,⟨(some 52),(.load false 1),[(.tmp 51)],none⟩,⟨(some 53),(.un .not),[(.tmp 52)],none⟩])
def H2b:A0n:=(.ops [⟨(some 54),.mv,[(.tmp 3)],none⟩,⟨(some 55),(.faddr 1),[(.tmp 8)],none⟩,⟨(some 56),(.load false 1),[(.tmp 55)],none⟩,⟨(some 57),(.iaddr 1),[(.tmp 54),(.tmp 56)],none⟩,⟨none,(.store 1),[(.tmp 57),(.k (.t (.v (.bool true))))],none⟩])
def H2c:A0n:=(.ops [⟨(some 58),.mv,[(.tmp 4)],none⟩,⟨(some 59),(.faddr 1),[(.tmp 8)],none⟩,⟨(some 60),(.load false 1),[(.tmp 59)],none⟩,⟨(some 61),(.bslice 3 1 [(.int .i64 0)] 1 [0]),[(.tmp 60)],none⟩,⟨(some 62),(.app 3 1 8),[(.tmp 58),(.tmp 61)],none⟩,⟨(some 4),.mv,[(.tmp 62)],none⟩])
def l93Y:List Mini:=[⟨(some 23),.mv,[(.tmp 0)],none⟩,⟨(some 24),.mv,[(.tmp 4)],none⟩,⟨(some 25),.mv,[(.tmp 6)],none⟩,⟨(some 26),(.iaddr 1),[(.tmp 24),(.tmp 25)],none⟩,⟨(some 27),(.load false 1),[(.tmp 26)],none⟩,⟨(some 28),.mv,[(.tmp 5)],none⟩,⟨(some 29),.mv,[(.tmp 6)],none⟩,⟨(some 30),(.iaddr 1),[(.tmp 28),(.tmp 29)],none⟩,⟨(some 31),(.load false 1),[(.tmp 30)],none⟩,⟨(some 32),.callv,[(.tmp 23),(.tmp 27),(.tmp 31)],none⟩,⟨(some 33),(.un .not),[(.tmp 32)],none⟩]
def l93Z:List Mini:=[⟨(some 63),.mv,[(.tmp 5)],none⟩,⟨(some 64),.mv,[(.tmp 5)],none⟩,⟨(some 65),.mv,[(.tmp 6)],none⟩,⟨(some 66),(.iaddr 1),[(.tmp 64),(.tmp 65)],none⟩,⟨(some 67),(.load false 1),[(.tmp 66)],none⟩,⟨(some 68),(.hcall 73),[(.tmp 67)],none⟩,⟨(some 69),(.faddr 0),[(.tmp 8)],none⟩,⟨(some 70),(.load false 1),[(.tmp 69)],none⟩,⟨(some 71),(.tslice 3 1 [(.int .i64 0)] 1 [0]),[(.tmp 70)],none⟩,⟨(some 72),(.app 3 1 8),[(.tmp 68),(.tmp 71)],none⟩,⟨(some 73),(.tslice 33 1 [(.slice none 0 0)] 1 [0]),[(.tmp 72)],none⟩,⟨(some 74),(.app 33 1 24),[(.tmp 63),(.tmp 73)],none⟩,⟨(some 5),.mv,[(.tmp 74)],none⟩]
theorem c93a1:comp Try.prog G 76 (hdC b93)=some H1r:=by kernel_rfl
theorem c93a2:comp Try.prog G 76 (hdC (tlC b93))=some H1s:=by kernel_rfl
theorem c93a3:comp Try.prog G 76 (hdC (tlC (tlC b93)))=some H1t:=by kernel_rfl
theorem c93a4:comp Try.prog G 76 (hdC (tlC (tlC (tlC b93))))=some H1u:=by kernel_rfl
theorem c93c1:comp Try.prog G 76 (hdC B93)=some H1v:=by kernel_rfl
theorem H2d:comp Try.prog G 76 (tlC (tlC B93))=some G6i:=by kernel_rfl
theorem c93cY:comp Try.prog G 76 (tlC (hdC K93))=some H1w:=by kernel_rfl
theorem c93d1:comp Try.prog G 76 (hdC (tlC K93))=some H1x:=by kernel_rfl
theorem H2e:comp Try.prog G 76 (hdC E93)=some G8x:=by kernel_rfl
theorem H2f:comp Try.prog G 76 (hdC (tlC E93))=some G8y:=by kernel_rfl
theorem c93e3:comp Try.prog G 76 (tlC (tlC (tlC E93)))=some H1y:=by kernel_rfl
theorem c93g1:comp Try.prog G 76 (hdC g93)=some H1z:=by kernel_rfl
theorem c93g2:comp Try.prog G 76 (hdC (tlC g93))=some H2a:=by kernel_rfl
theorem c93p1:comp Try.prog G 76 (hdC E1h)=some H2b:=by kernel_rfl
theorem c93p2:comp Try.prog G 76 (hdC (tlC E1h))=some H2c:=by kernel_rfl
theorem G8z:o93Y.toList.mapM (A2c Try.prog G 76 true o93Y)=some l93Y:=by kernel_rfl
theorem G9a:o93Z.toList.mapM (A2c Try.prog G 76 true o93Z)=some l93Z:=by kernel_rfl
def A2j:A0n:=(.seq (.ops [zM 3 (.box 91) [zT 1],zM 4 .mv [(zI 0)]]) (.seq (.seq (.draw [zV 16 0,zM 17 .chk [zT 16],zM 18 (.faddr 4) [zT 17],zM 19 (.load false 1) [zT 18],zM 20 (.load true 2) [zT 3],zM 21 (.hx (.mget (.ints 2) (.int .i64 0) true)) [zT 19,zT 20],zV 15 21,zM 22 (.ext 0) [zT 15],zM 23 (.ext 1) [zT 15],zV 5 22,zV 6 23]) (.seq (.ops [zV 24 6]) (.cond (zT 24) (.seq (.ops [zV 25 5,zV 4 25]) .ret) .skip))) (.seq (.ops [zV 26 0,zM 27 .chk [zT 26],zM 28 (.faddr 5) [zT 27],zM 29 (.load false 1) [zT 28],zM 30 .lensl [zT 29],zV 7 30]) (.seq (.draw [zV 31 0,zM 32 .chk [zT 31],zM 33 (.faddr 4) [zT 32],zM 34 (.load false 1) [zT 33],zM 35 (.load true 2) [zT 3],zV 36 7,⟨none,(.hx (.mset (.ints 2))),[zT 34,zT 35,zT 36],none⟩]) (.seq (.drawG 2 [(.o ⟨some 37,.mv,[zT 0],none⟩ false []),(.o ⟨some 38,.chk,[zT 37],none⟩ false []),(.o ⟨some 39,.faddr 2,[zT 38],none⟩ false []),(.o ⟨some 40,.faddr 0,[zT 39],none⟩ false []),(.o ⟨some 41,.load false 1,[zT 40],none⟩ false []),(.o ⟨some 42,.faddr 0,[zT 3],none⟩ false []),(.o ⟨some 43,.load false 1,[zT 42],none⟩ false []),(.o ⟨some 44,.iaddr 2,[zT 41,zT 43],none⟩ false []),(.o ⟨some 45,.load true 2,[zT 44],none⟩ false []),(.o ⟨some 46,.mv,[zT 0],none⟩ false []),(.o ⟨some 47,.chk,[zT 46],none⟩ false []),(.o ⟨some 48,.faddr 3,[zT 47],none⟩ false []),(.o ⟨some 49,.faddr 0,[zT 48],none⟩ false []),(.o ⟨some 50,.load false 1,[zT 49],none⟩ true []),(.o ⟨some 51,.faddr 1,[zT 3],none⟩ false []),(.o ⟨some 52,.load false 1,[zT 51],none⟩ true []),(.o ⟨some 53,.iaddr 2,[zT 50,zT 52],none⟩ false []),(.o ⟨some 54,.load true 2,[zT 53],none⟩ true []),(.g 0 ⟨some 8,(.alloc 61 [(.int .i64 0),(.slice none 0 0)]),[],none⟩),(.g 1 ⟨some 9,(.alloc 61 [(.int .i64 0),(.slice none 0 0)]),[],none⟩),(.o ⟨none,.store 2,[zT 8,zT 45],none⟩ false [13,15,17]),(.o ⟨none,.store 2,[zT 9,zT 54],none⟩ false [])]) (.seq (.draw [zV 55 0,zV 56 0,zM 57 .chk [zT 56],zM 58 (.faddr 5) [zT 57],zM 59 (.load false 1) [zT 58],zV 60 0,zM 61 .chk [zT 60],zM 62 (.faddr 0) [zT 61],zM 63 (.load true 2) [zT 62],zM 64 (.faddr 0) [zT 8],zM 65 (.load false 1) [zT 64],zM 66 (.faddr 0) [zT 9],zM 67 (.load false 1) [zT 66],zM 68 (.call 41) [zT 63,zT 65,zT 67],zM 69 (.build [(0,1),(1,1)] [(.int .i64 0),(.slice none 0 0)] [0]) [zT 68],zM 70 (.tslice 61 2 [(.int .i64 0),(.slice none 0 0)] 1 [0]) [zT 69],zM 71 (.app 61 2 32) [zT 59,zT 70],zM 72 .chk [zT 55],zM 73 (.faddr 5) [zT 72],⟨none,.store 1,[zT 73,zT 71],none⟩]) (.seq (.ops [zM 10 .mv [zN]]) (.seq (.seq (.ops [zM 74 (.faddr 1) [zT 8],zM 75 (.load false 1) [zT 74],zM 76 .lensl [zT 75],zM 77 .mv [(zI 0)]]) (.block 0 (.loop (.seq (.ops [zM 78 (.bin false .lss none) [zT 77,zT 76]]) (.seq (.cond (zT 78) .skip (.exit 0)) (.seq (.block 1 (.seq (.ops [zM 79 (.iaddr 2) [zT 75,zT 77],zM 80 (.load true 2) [zT 79],zM 12 (.alloc 81 [(.int .i64 0),(.int .i64 0)]) [],⟨none,.store 2,[zT 12,zT 80],none⟩]) (.seq (.ops [zM 81 (.faddr 1) [zT 9],zM 82 (.load false 1) [zT 81],zM 83 .lensl [zT 82],zM 84 .mv [(zI 0)]]) (.block 2 (.loop (.seq (.ops [zM 85 (.bin false .lss none) [zT 84,zT 83]]) (.seq (.cond (zT 85) .skip (.exit 2)) (.seq (.block 3 (.seq (.ops [zM 86 (.iaddr 2) [zT 82,zT 84],zM 87 (.load true 2) [zT 86],zM 14 (.alloc 81 [(.int .i64 0),(.int .i64 0)]) [],⟨none,.store 2,[zT 14,zT 87],none⟩]) (.seq (.ops [zM 88 (.faddr 0) [zT 12],zM 89 (.load false 1) [zT 88],zM 90 (.faddr 0) [zT 14],zM 91 (.load false 1) [zT 90],zM 92 (.bin false .eql none) [zT 89,zT 91]]) (.cond (zT 92) (.drawG 0 [(.o ⟨some 93,.mv,[zT 10],none⟩ false []),(.o ⟨some 94,.faddr 0,[zT 12],none⟩ false []),(.o ⟨some 95,.load false 1,[zT 94],none⟩ true []),(.o ⟨some 96,.mv,[zT 0],none⟩ false []),(.o ⟨some 97,.faddr 1,[zT 12],none⟩ false []),(.o ⟨some 98,.load false 1,[zT 97],none⟩ false []),(.o ⟨some 99,.faddr 1,[zT 14],none⟩ false []),(.o ⟨some 100,.load false 1,[zT 99],none⟩ false []),(.o ⟨some 101,(.build [(0,1),(1,1)] [(.int .i64 0),(.int .i64 0)] [0,1]),[zT 98,zT 100],none⟩ false []),(.o ⟨some 102,.hcall 65,[zT 96,zT 101],none⟩ false [2]),(.o ⟨some 103,(.build [(0,1),(1,1)] [(.int .i64 0),(.int .i64 0)] [0,1]),[zT 95,zT 102],none⟩ false []),(.o ⟨some 104,(.tslice 81 2 [(.int .i64 0),(.int .i64 0)] 1 [0]),[zT 103],none⟩ false []),(.o ⟨some 105,.app 81 2 16,[zT 93,zT 104],none⟩ false []),(.o ⟨some 10,.mv,[zT 105],none⟩ false [])]) .skip)))) (.ops [zM 106 (.bin false .add none) [zT 84,(zI 1)],zV 84 106]))))))))) (.ops [zM 107 (.bin false .add none) [zT 77,(zI 1)],zV 77 107]))))))) (.seq (.ops [zV 108 0,zM 109 .chk [zT 108],zM 110 (.faddr 5) [zT 109],zM 111 (.load false 1) [zT 110],zV 112 7,zV 113 10,zM 114 (.iaddr 2) [zT 111,zT 112],zM 115 (.faddr 1) [zT 114],⟨none,.store 1,[zT 115,zT 113],none⟩]) (.seq (.ops [zV 116 7,zV 4 116]) .ret))))))))))
theorem A3b:FnOK Try.prog G 65 2 117 A2j [(.tmp 4)]:=⟨Try.f65,Try.func65,by kernel_rfl,by kernel_rfl,by kernel_rfl,by kernel_rfl⟩
def A4r:A0n:=(.seq (.ops [zM 3 (.box 29) [zT 0],zM 4 (.box 25) [zT 1],zM 5 (.box 25) [zT 2],zM 6 (.alloc 25 [(.slice none 0 0)]) []]) (.seq (.ops [zM 8 (.load true 2) [zT 3],zM 9 (.load true 1) [zT 4],zM 10 (.load true 1) [zT 5],zM 11 (.hx (.mnew (.ints 2))) [],zM 12 (.build [(0,2),(2,1),(3,1),(4,1),(5,1)] [(.slice none 0 0),(.slice none 0 0),(.slice none 0 0),(.slice none 0 0),(.map none),(.slice none 0 0)] [0,1,2,3]) [zT 8,zT 9,zT 10,zT 11],zM 13 (.box 88) [zT 12],zV 7 13]) (.seq (.ops [zV 14 7,zM 15 (.build [(0,1),(1,1)] [(.int .i64 0),(.int .i64 0)] [0,1]) [(zI 0),(zI 0)],zM 16 (.hcall 65) [zT 14,zT 15]]) (.seq (.ops [zV 17 7,zM 18 .chk [zT 17],zM 19 (.faddr 5) [zT 18],zM 20 (.load false 1) [zT 19],zM 21 (.build [(0,1)] [(.slice none 0 0)] [0]) [zT 20],⟨none,.store 1,[zT 6,zT 21],none⟩]) .ret))))
theorem A8g:FnOK Try.prog G 34 3 22 A4r [(.cell 6 true 1)]:=⟨Try.f34,Try.func34,by kernel_rfl,by kernel_rfl,by kernel_rfl,by kernel_rfl⟩
def C1m:A0n:=(.seq (.ops [zM 2 (.box 29) [zT 0],zM 4 (.alloc 25 [(.slice none 0 0)]) [],zM 5 .mv [zF]]) (.seq (.seq (.ops [zV 9 1,zM 10 .lensl [zT 9],zM 11 (.bin false .eql none) [zT 10,(zI 0)]]) (.cond (zT 11) (.seq (.ops [zM 12 (.build [(0,1)] [(.slice none 0 0)] []) [],⟨none,.store 1,[zT 4,zT 12],none⟩,zM 5 .mv [zF]]) .ret) .skip)) (.seq (.ops [zV 13 1,zM 14 (.iaddr 1) [zT 13,(zI 0)],zM 15 (.load true 1) [zT 14],zM 6 (.alloc 25 [(.slice none 0 0)]) [],⟨none,.store 1,[zT 6,zT 15],none⟩]) (.seq (.seq (.ops [zV 16 1,zM 17 (.slice 1 true false) [zT 16,(zI 1)],zM 18 .lensl [zT 17],zM 19 .mv [(zI 0)]]) (.block 0 (.loop (.seq (.ops [zM 20 (.bin false .lss none) [zT 19,zT 18]]) (.seq (.cond (zT 20) .skip (.exit 0)) (.seq (.block 1 (.seq (.ops [zM 21 (.iaddr 1) [zT 17,zT 19],zM 22 (.load true 1) [zT 21],zM 8 (.alloc 25 [(.slice none 0 0)]) [],⟨none,.store 1,[zT 8,zT 22],none⟩]) (.ops [zM 23 (.load true 2) [zT 2],zM 24 (.load true 1) [zT 6],zM 25 (.load true 1) [zT 8],zM 26 (.call 34) [zT 23,zT 24,zT 25],⟨none,.store 1,[zT 6,zT 26],none⟩]))) (.ops [zM 27 (.bin false .add none) [zT 19,(zI 1)],zV 19 27]))))))) (.seq (.ops [zM 28 (.load true 1) [zT 6],⟨none,.store 1,[zT 4,zT 28],none⟩,zM 5 .mv [zW]]) .ret)))))
theorem D6w:FnOK Try.prog G 37 2 29 C1m [(.cell 4 true 1),(.tmp 5)]:=⟨Try.f37,Try.func37,by kernel_rfl,by kernel_rfl,by kernel_rfl,by kernel_rfl⟩
def B9h:A0n:=(.seq (.ops [zM 3 (.box 29) [zT 0],zM 6 .mv [(zI 0)]]) (.seq (.draw [zM 11 (.faddr 0) [zT 3],zM 12 (.load false 1) [zT 11],zV 13 1,zM 14 (.iaddr 4) [zT 12,zT 13],zM 15 (.faddr 1) [zT 14],zM 16 (.load false 1) [zT 15],zM 17 (.faddr 0) [zT 3],zM 18 (.load false 1) [zT 17],zV 19 2,zM 20 (.iaddr 4) [zT 18,zT 19],zM 21 (.faddr 1) [zT 20],zM 22 (.load false 1) [zT 21],zM 23 (.call 70) [zT 16,zT 22],zV 7 23]) (.seq (.ops [zM 8 .mv [(zI 0)]]) (.seq (.seq (.ops [zM 24 (.faddr 0) [zT 3],zM 25 (.load false 1) [zT 24],zM 26 .lensl [zT 25],zM 27 .mv [(zI 0)]]) (.block 0 (.loop (.seq (.ops [zM 28 (.bin false .lss none) [zT 27,zT 26]]) (.seq (.cond (zT 28) .skip (.exit 0)) (.seq (.block 1 (.seq (.ops [zV 29 27,zM 30 (.iaddr 4) [zT 25,zT 27],zM 31 (.load true 4) [zT 30],⟨some 10,(.alloc 105 [(.string ⟨#[]⟩),(.slice none 0 0),(.slice none 0 0),(.slice none 0 0)]),[],none⟩,zV 9 29,⟨none,.store 4,[zT 10,zT 31],none⟩]) (.seq (.draw [zV 32 7,zM 33 (.faddr 1) [zT 10],zM 34 (.load false 1) [zT 33],zM 35 (.call 71) [zT 32,zT 34],zV 36 35,⟨some 37,.faddr 1,[zT 10],some (36,true)⟩,⟨some 38,.load false 1,[zT 37],some (36,true)⟩,⟨some 39,.call 72,[zT 38],some (36,true)⟩,⟨some 40,.faddr 0,[zT 3],some (36,true)⟩,⟨some 41,.load false 1,[zT 40],some (36,true)⟩,⟨some 42,.mv,[zT 8],some (36,true)⟩,⟨some 43,.iaddr 4,[zT 41,zT 42],some (36,true)⟩,⟨some 44,.faddr 1,[zT 43],some (36,true)⟩,⟨some 45,.load false 1,[zT 44],some (36,true)⟩,⟨some 46,.call 72,[zT 45],some (36,true)⟩,⟨some 47,.bin false .lss none,[zT 39,zT 46],some (36,true)⟩,zM 48 .pick [zT 36,zT 47,zF]]) (.cond (zT 48) (.ops [zV 49 9,zV 8 49]) .skip)))) (.ops [zM 50 (.bin false .add none) [zT 27,(zI 1)],zV 27 50]))))))) (.seq (.ops [zV 51 8,zV 6 51]) .ret)))))
theorem C9y:FnOK Try.prog G 41 3 52 B9h [(.tmp 6)]:=⟨Try.f41,Try.func41,by kernel_rfl,by kernel_rfl,by kernel_rfl,by kernel_rfl⟩
def C9z:A0n:=(.seq (.ops [zM 3 (.box 93) [zT 1],zM 4 .mv [(zI 0)]]) (.seq (.seq (.ops [zM 5 .mv [(zI 0)]]) (.block 0 (.loop (.seq (.seq (.ops [zV 6 5,zV 7 0,zM 8 .lensl [zT 7],zM 9 (.bin false .lss none) [zT 6,zT 8]]) (.cond (zT 9) .skip (.exit 0))) (.seq (.block 1 (.seq (.draw [zV 12 0,zV 13 5,zM 14 (.iaddr 2) [zT 12,zT 13],zM 15 (.load true 2) [zT 14],zM 16 (.load true 2) [zT 3],zM 17 (.ex (.eqs false [.i,.i])) [zT 15,zT 16]]) (.cond (zT 17) (.seq (.ops [zV 18 5,zV 4 18]) .ret) .skip))) (.ops [zV 10 5,zM 11 (.bin false .add none) [zT 10,(zI 1)],zV 5 11])))))) (.seq (.ops [zM 4 .mv [(zI (-1))]]) .ret)))
theorem E4x:FnOK Try.prog G 67 2 19 C9z [(.tmp 4)]:=⟨Try.f67,Try.func67,by kernel_rfl,by kernel_rfl,by kernel_rfl,by kernel_rfl⟩
def B3a:A0n:=(.seq (.ops [zM 3 (.box 29) [zT 0],zM 4 (.box 25) [zT 1],zM 5 (.box 25) [zT 2],zM 6 (.alloc 25 [(.slice none 0 0)]) []]) (.seq (.ops [zM 16 (.build [(0,1),(1,1)] [(.int .i64 0),(.int .i64 0)] []) [],zM 17 (.bslice 93 2 [(.int .i64 0),(.int .i64 0)] 1 [0]) [zT 16],zV 7 17]) (.seq (.ops [zM 8 (.alloc 25 [(.slice none 0 0)]) []]) (.seq (.seq (.ops [zM 9 .mv [(zI 0)]]) (.block 0 (.loop (.seq (.seq (.ops [zV 18 9,zV 19 7,zM 20 .lensl [zT 19],zM 21 (.bin false .lss none) [zT 18,zT 20]]) (.cond (zT 21) .skip (.exit 0))) (.seq (.block 1 (.seq (.draw [zM 24 (.faddr 0) [zT 4],zM 25 (.load false 1) [zT 24],zV 26 7,zV 27 9,zM 28 (.iaddr 2) [zT 26,zT 27],zM 29 (.faddr 0) [zT 28],zM 30 (.load false 1) [zT 29],zM 31 (.iaddr 2) [zT 25,zT 30],zM 32 (.load true 2) [zT 31],zM 10 (.alloc 61 [(.int .i64 0),(.slice none 0 0)]) [],⟨none,.store 2,[zT 10,zT 32],none⟩]) (.seq (.draw [zM 33 (.load true 2) [zT 3],zM 34 (.faddr 0) [zT 10],zM 35 (.load false 1) [zT 34],zM 36 (.faddr 0) [zT 5],zM 37 (.load false 1) [zT 36],zV 38 7,zV 39 9,zM 40 (.iaddr 2) [zT 38,zT 39],zM 41 (.faddr 1) [zT 40],zM 42 (.load false 1) [zT 41],zM 43 (.iaddr 2) [zT 37,zT 42],zM 44 (.faddr 0) [zT 43],zM 45 (.load false 1) [zT 44],zM 46 (.call 66) [zT 33,zT 35,zT 45],zM 47 (.build [(0,1),(1,1)] [(.int .i64 0),(.slice none 0 0)] [0]) [zT 46],zM 11 (.alloc 61 [(.int .i64 0),(.slice none 0 0)]) [],⟨none,.store 2,[zT 11,zT 47],none⟩]) (.seq (.seq (.ops [zM 12 .mv [(zI 0)]]) (.block 2 (.loop (.seq (.seq (.ops [zV 48 12,zM 49 (.faddr 1) [zT 10],zM 50 (.load false 1) [zT 49],zM 51 .lensl [zT 50],zM 52 (.bin false .lss none) [zT 48,zT 51]]) (.cond (zT 52) .skip (.exit 2))) (.seq (.block 3 (.seq (.draw [zM 56 (.load true 1) [zT 5],zV 57 7,zV 58 9,zM 59 (.iaddr 2) [zT 57,zT 58],zM 60 (.faddr 1) [zT 59],zM 61 (.load false 1) [zT 60],zM 62 (.faddr 1) [zT 10],zM 63 (.load false 1) [zT 62],zV 64 12,zM 65 (.iaddr 2) [zT 63,zT 64],zM 66 (.faddr 0) [zT 65],zM 67 (.load false 1) [zT 66],zM 68 (.call 56) [zT 56,zT 61,zT 67],zV 55 68,zM 69 (.ext 0) [zT 55],zM 70 (.ext 1) [zT 55],zV 13 69,zV 14 70]) (.seq (.seq (.ops [zV 71 14,zM 72 (.un .not) [zT 71]]) (.cond (zT 72) (.exit 3) .skip)) (.seq (.ops [zM 73 (.faddr 1) [zT 10],zM 74 (.load false 1) [zT 73],zV 75 12,zM 76 (.iaddr 2) [zT 74,zT 75],zM 77 (.faddr 1) [zT 76],zM 78 (.load false 1) [zT 77],zV 79 13,zM 80 (.build [(0,1),(1,1)] [(.int .i64 0),(.int .i64 0)] [0,1]) [zT 78,zT 79],zM 15 (.alloc 93 [(.int .i64 0),(.int .i64 0)]) [],⟨none,.store 2,[zT 15,zT 80],none⟩]) (.seq (.seq (.ops [zV 81 7,zM 82 (.load true 2) [zT 15],zM 83 (.call 67) [zT 81,zT 82],zM 84 (.bin false .lss none) [zT 83,(zI 0)]]) (.cond (zT 84) (.ops [zV 85 7,zM 86 (.load true 2) [zT 15],zM 87 (.bslice 93 2 [(.int .i64 0),(.int .i64 0)] 1 [0]) [zT 86],zM 88 (.app 93 2 16) [zT 85,zT 87],zV 7 88]) .skip)) (.draw [zM 89 (.faddr 1) [zT 11],zM 90 (.load false 1) [zT 89],zM 91 (.faddr 1) [zT 10],zM 92 (.load false 1) [zT 91],zV 93 12,zM 94 (.iaddr 2) [zT 92,zT 93],zM 95 (.faddr 0) [zT 94],zM 96 (.load false 1) [zT 95],zV 97 7,zM 98 (.load true 2) [zT 15],zM 99 (.call 67) [zT 97,zT 98],zM 100 (.build [(0,1),(1,1)] [(.int .i64 0),(.int .i64 0)] [0,1]) [zT 96,zT 99],zM 101 (.tslice 81 2 [(.int .i64 0),(.int .i64 0)] 1 [0]) [zT 100],zM 102 (.app 81 2 16) [zT 90,zT 101],zM 103 (.faddr 1) [zT 11],⟨none,.store 1,[zT 103,zT 102],none⟩])))))) (.ops [zV 53 12,zM 54 (.bin false .add none) [zT 53,(zI 1)],zV 12 54])))))) (.ops [zM 104 (.faddr 0) [zT 8],zM 105 (.load false 1) [zT 104],zM 106 (.load true 2) [zT 11],zM 107 (.bslice 61 2 [(.int .i64 0),(.slice none 0 0)] 1 [0]) [zT 106],zM 108 (.app 61 2 32) [zT 105,zT 107],zM 109 (.faddr 0) [zT 8],⟨none,.store 1,[zT 109,zT 108],none⟩]))))) (.ops [zV 22 9,zM 23 (.bin false .add none) [zT 22,(zI 1)],zV 9 23])))))) (.seq (.ops [zM 110 (.load true 1) [zT 8],zM 111 (.call 68) [zT 110,(zI 0)],⟨none,.store 1,[zT 6,zT 111],none⟩]) .ret)))))
theorem C5h:FnOK Try.prog G 35 3 112 B3a [(.cell 6 true 1)]:=⟨Try.f35,Try.func35,by kernel_rfl,by kernel_rfl,by kernel_rfl,by kernel_rfl⟩
def E1i:A0n:=(.seq (.ops [zM 2 (.box 29) [zT 0],zM 4 (.alloc 25 [(.slice none 0 0)]) [],zM 5 .mv [zF]]) (.seq (.seq (.ops [zV 8 1,zM 9 .lensl [zT 8],zM 10 (.bin false .eql none) [zT 9,(zI 0)]]) (.cond (zT 10) (.seq (.ops [zM 11 (.build [(0,1)] [(.slice none 0 0)] []) [],⟨none,.store 1,[zT 4,zT 11],none⟩,zM 5 .mv [zF]]) .ret) .skip)) (.seq (.ops [zV 12 1,zM 13 (.iaddr 1) [zT 12,(zI 0)],zM 14 (.load true 1) [zT 13],zM 6 (.alloc 25 [(.slice none 0 0)]) [],⟨none,.store 1,[zT 6,zT 14],none⟩]) (.seq (.seq (.ops [zM 7 .mv [(zI 1)]]) (.block 0 (.loop (.seq (.seq (.ops [zV 15 7,zV 16 1,zM 17 .lensl [zT 16],zM 18 (.bin false .lss none) [zT 15,zT 17]]) (.cond (zT 18) .skip (.exit 0))) (.seq (.block 1 (.draw [zM 21 (.load true 2) [zT 2],zM 22 (.load true 1) [zT 6],zV 23 1,zV 24 7,zM 25 (.iaddr 1) [zT 23,zT 24],zM 26 (.load true 1) [zT 25],zM 27 (.call 35) [zT 21,zT 22,zT 26],⟨none,.store 1,[zT 6,zT 27],none⟩])) (.ops [zV 19 7,zM 20 (.bin false .add none) [zT 19,(zI 1)],zV 7 20])))))) (.seq (.ops [zM 28 (.load true 1) [zT 6],⟨none,.store 1,[zT 4,zT 28],none⟩,zM 5 .mv [zW]]) .ret)))))
theorem F9r:FnOK Try.prog G 38 2 29 E1i [(.cell 4 true 1),(.tmp 5)]:=⟨Try.f38,Try.func38,by kernel_rfl,by kernel_rfl,by kernel_rfl,by kernel_rfl⟩
def D0a:A0n:=(.seq (.ops [zM 2 (.alloc 29 [(.slice none 0 0),(.slice none 0 0)]) []]) (.seq (.seq (.ops [zV 7 0,zM 8 .lensl [zT 7],zM 9 (.bin false .leq none) [zT 8,(zI 12)]]) (.cond (zT 9) (.seq (.ops [zV 11 0,zM 12 (.call 45) [zT 11],zV 10 12,zM 13 (.ext 0) [zT 10],zM 14 (.ext 1) [zT 10],zM 3 (.alloc 29 [(.slice none 0 0),(.slice none 0 0)]) [],⟨none,.store 2,[zT 3,zT 13],none⟩,zV 4 14]) (.seq (.ops [zV 15 4,zM 16 (.bin false .eql none) [zT 15,(zI 0)]]) (.cond (zT 16) (.seq (.ops [zM 17 (.load true 2) [zT 3],⟨none,.store 2,[zT 2,zT 17],none⟩]) .ret) .skip))) .skip)) (.seq (.ops [zM 19 (.call 46) [],zM 20 (.call 45) [zT 19],zV 18 20,zM 21 (.ext 0) [zT 18],zM 22 (.ext 1) [zT 18],zM 5 (.alloc 29 [(.slice none 0 0),(.slice none 0 0)]) [],⟨none,.store 2,[zT 5,zT 21],none⟩,zV 6 22]) (.seq (.ops [zM 23 (.load true 2) [zT 5],⟨none,.store 2,[zT 2,zT 23],none⟩]) .ret))))
theorem D0b:FnOK Try.prog G 30 1 24 D0a [(.cell 2 true 2)]:=⟨Try.f30,Try.func30,by kernel_rfl,by kernel_rfl,by kernel_rfl,by kernel_rfl⟩
def F3a:A0n:=(.seq (.ops [zM 2 (.box 29) [zT 0],zM 4 .mv [zF]]) (.seq (.seq (.ops [zV 7 1,zM 8 .lensl [zT 7],zM 9 .mv [(zI 0)]]) (.block 0 (.loop (.seq (.ops [zM 10 (.bin false .lss none) [zT 9,zT 8]]) (.seq (.cond (zT 10) .skip (.exit 0)) (.seq (.block 1 (.seq (.ops [zM 11 (.iaddr 1) [zT 7,zT 9],zM 12 (.load true 1) [zT 11],zM 6 (.alloc 25 [(.slice none 0 0)]) [],⟨none,.store 1,[zT 6,zT 12],none⟩]) (.seq (.ops [zM 13 (.load true 1) [zT 6],zM 14 (.call 47) [zT 13],zM 15 (.un .not) [zT 14],zV 16 15,⟨some 17,.load true 2,[zT 2],some (16,false)⟩,⟨some 18,.load true 1,[zT 6],some (16,false)⟩,⟨some 19,.call 48,[zT 17,zT 18],some (16,false)⟩,⟨some 20,.bin false .neq none,[zT 19,(zI 0)],some (16,false)⟩,zM 21 .pick [zT 16,zW,zT 20]]) (.cond (zT 21) (.seq (.ops [zM 4 .mv [zF]]) .ret) .skip)))) (.ops [zM 22 (.bin false .add none) [zT 9,(zI 1)],zV 9 22]))))))) (.seq (.ops [zM 4 .mv [zW]]) .ret)))
theorem F3b:FnOK Try.prog G 31 2 23 F3a [(.tmp 4)]:=⟨Try.f31,Try.func31,by kernel_rfl,by kernel_rfl,by kernel_rfl,by kernel_rfl⟩
def D3u:A0n:=(.seq (.ops [zM 4 (.alloc 61 [(.int .i64 0),(.slice none 0 0)]) []]) (.seq (.ops [zV 7 0,zM 8 (.build [(0,1),(1,1)] [(.int .i64 0),(.slice none 0 0)] [0]) [zT 7],zM 5 (.alloc 61 [(.int .i64 0),(.slice none 0 0)]) [],⟨none,.store 2,[zT 5,zT 8],none⟩]) (.seq (.seq (.ops [zM 6 .mv [(zI 0)]]) (.block 0 (.loop (.seq (.seq (.ops [zV 9 6,zM 10 (.bin false .add none) [zT 9,(zI 1)],zV 11 1,zM 12 .lensl [zT 11],zM 13 (.bin false .lss none) [zT 10,zT 12]]) (.cond (zT 13) .skip (.exit 0))) (.seq (.block 1 (.draw [zM 16 (.faddr 1) [zT 5],zM 17 (.load false 1) [zT 16],zV 18 1,zV 19 6,zM 20 (.iaddr 1) [zT 18,zT 19],zM 21 (.load false 1) [zT 20],zV 22 1,zV 23 6,zM 24 (.bin false .add none) [zT 23,(zI 1)],zM 25 (.iaddr 1) [zT 22,zT 24],zM 26 (.load false 1) [zT 25],zM 27 (.build [(0,1),(1,1)] [(.int .i64 0),(.int .i64 0)] [0,1]) [zT 21,zT 26],zM 28 (.tslice 81 2 [(.int .i64 0),(.int .i64 0)] 1 [0]) [zT 27],zM 29 (.app 81 2 16) [zT 17,zT 28],zM 30 (.faddr 1) [zT 5],⟨none,.store 1,[zT 30,zT 29],none⟩])) (.ops [zV 14 6,zM 15 (.bin false .add none) [zT 14,(zI 2)],zV 6 15])))))) (.seq (.ops [zM 31 (.load true 2) [zT 5],⟨none,.store 2,[zT 4,zT 31],none⟩]) .ret))))
theorem F3c:FnOK Try.prog G 62 2 32 D3u [(.cell 4 true 2)]:=⟨Try.f62,Try.func62,by kernel_rfl,by kernel_rfl,by kernel_rfl,by kernel_rfl⟩
def E8r:A0n:=(.seq (.ops [zM 2 (.alloc 25 [(.slice none 0 0)]) []]) (.seq (.ops [zV 3 0,zM 4 (.build [(0,1)] [(.slice none 0 0)] [0]) [zT 3],⟨none,.store 1,[zT 2,zT 4],none⟩]) .ret))
theorem G4s:FnOK Try.prog G 61 1 5 E8r [(.cell 2 true 1)]:=⟨Try.f61,Try.func61,by kernel_rfl,by kernel_rfl,by kernel_rfl,by kernel_rfl⟩
def D0c:A0n:=(.seq (.ops [zM 0 (.alloc 29 [(.slice none 0 0),(.slice none 0 0)]) []]) (.seq (.ops [⟨some 4,(.build [(0,1),(1,1)] [(.string ⟨#[]⟩),(.string ⟨#[]⟩)] [0,1]),[(.k (.t (.v (.string ⟨#[70]⟩)))),(.k (.t (.v (.string ⟨#[116,111,112]⟩))))],none⟩,⟨some 5,(.build [(0,1),(1,1)] [(.string ⟨#[]⟩),(.string ⟨#[]⟩)] [0,1]),[(.k (.t (.v (.string ⟨#[71]⟩)))),(.k (.t (.v (.string ⟨#[116,111,112]⟩))))],none⟩,⟨some 6,(.bslice 128 2 [(.string ⟨#[]⟩),(.string ⟨#[]⟩)] 2 [0,1]),[zT 4,zT 5],none⟩,⟨some 7,(.build [(0,1),(1,1),(2,1)] [(.string ⟨#[]⟩),(.slice none 0 0),(.slice none 0 0)] [0,2]),[(.k (.t (.v (.string ⟨#[116,111,112]⟩)))),zT 6],none⟩,⟨some 8,(.bslice 9 1 [(.string ⟨#[]⟩)] 1 [0]),[(.k (.t (.v (.string ⟨#[116,111,112]⟩))))],none⟩,⟨some 9,(.build [(0,1),(1,1),(2,1)] [(.string ⟨#[]⟩),(.slice none 0 0),(.slice none 0 0)] [0,1]),[(.k (.t (.v (.string ⟨#[120]⟩)))),zT 8],none⟩,⟨some 10,(.bslice 9 1 [(.string ⟨#[]⟩)] 1 [0]),[(.k (.t (.v (.string ⟨#[116,111,112]⟩))))],none⟩,⟨some 11,(.build [(0,1),(1,1),(2,1)] [(.string ⟨#[]⟩),(.slice none 0 0),(.slice none 0 0)] [0,1]),[(.k (.t (.v (.string ⟨#[121]⟩)))),zT 10],none⟩,⟨some 12,(.bslice 123 3 [(.string ⟨#[]⟩),(.slice none 0 0),(.slice none 0 0)] 3 [0,1,2]),[zT 7,zT 9,zT 11],none⟩,zM 13 (.call 45) [zT 12],zV 3 13,zM 14 (.ext 0) [zT 3],zM 15 (.ext 1) [zT 3],zM 1 (.alloc 29 [(.slice none 0 0),(.slice none 0 0)]) [],⟨none,.store 2,[zT 1,zT 14],none⟩,zV 2 15]) (.seq (.ops [zM 16 (.load true 2) [zT 1],⟨none,.store 2,[zT 0,zT 16],none⟩]) .ret)))
theorem E4y:FnOK Try.prog G 60 0 17 D0c [(.cell 0 true 2)]:=⟨Try.f60,Try.func60,by kernel_rfl,by kernel_rfl,by kernel_rfl,by kernel_rfl⟩
def B0b:A0n:=(.seq (.ops [zM 0 .mv [zF]]) (.seq (.ops [zM 11 (.call 60) [],zM 1 (.alloc 29 [(.slice none 0 0),(.slice none 0 0)]) [],⟨none,.store 2,[zT 1,zT 11],none⟩]) (.seq (.ops [zM 12 (.bslice 3 1 [(.int .i64 0)] 4 [0,1,2,3]) [(zI 0),(zI 1),(zI 1),(zI 1)],zM 13 (.call 62) [(zI 0),zT 12],zM 14 (.call 62) [(zI 1),zN],zM 15 (.bslice 61 2 [(.int .i64 0),(.slice none 0 0)] 2 [0,1]) [zT 13,zT 14],zM 16 (.call 61) [zT 15],zM 17 (.bslice 3 1 [(.int .i64 0)] 4 [0,1,2,3]) [(zI 0),(zI 1),(zI 1),(zI 2)],zM 18 (.call 62) [(zI 0),zT 17],zM 19 (.call 62) [(zI 1),zN],zM 20 (.call 62) [(zI 1),zN],zM 21 (.bslice 61 2 [(.int .i64 0),(.slice none 0 0)] 3 [0,1,2]) [zT 18,zT 19,zT 20],zM 22 (.call 61) [zT 21],zM 2 (.alloc 25 [(.slice none 0 0)]) [],zM 3 (.alloc 25 [(.slice none 0 0)]) [],⟨none,.store 1,[zT 2,zT 16],none⟩,⟨none,.store 1,[zT 3,zT 22],none⟩]) (.seq (.ops [zM 23 (.bslice 3 1 [(.int .i64 0)] 2 [0,1]) [(zI 0),(zI 0)],zM 24 (.call 62) [(zI 0),zT 23],zM 25 (.bslice 61 2 [(.int .i64 0),(.slice none 0 0)] 1 [0]) [zT 24],zM 26 (.call 61) [zT 25],zM 4 (.alloc 25 [(.slice none 0 0)]) [],⟨none,.store 1,[zT 4,zT 26],none⟩]) (.seq (.ops [zM 27 (.bslice 3 1 [(.int .i64 0)] 2 [0,1]) [(zI 0),(zI 1)],zM 28 (.call 62) [(zI 0),zT 27],zM 29 (.call 62) [(zI 0),zN],zM 30 (.bslice 61 2 [(.int .i64 0),(.slice none 0 0)] 2 [0,1]) [zT 28,zT 29],zM 31 (.call 61) [zT 30],zM 5 (.alloc 25 [(.slice none 0 0)]) [],⟨none,.store 1,[zT 5,zT 31],none⟩]) (.seq (.draw [zM 32 (.load true 2) [zT 1],zM 33 (.tslice 3 1 [(.int .i64 0)] 2 [0,1]) [(zI 0),(zI 1)],zM 34 (.call 62) [(zI 0),zT 33],zM 35 (.tslice 3 1 [(.int .i64 0)] 2 [0,1]) [(zI 0),(zI 0)],zM 36 (.call 62) [(zI 0),zT 35],zM 37 (.tslice 61 2 [(.int .i64 0),(.slice none 0 0)] 2 [0,1]) [zT 34,zT 36],zM 38 (.call 61) [zT 37],zM 39 (.tslice 3 1 [(.int .i64 0)] 2 [0,1]) [(zI 0),(zI 1)],zM 40 (.call 62) [(zI 0),zT 39],zM 41 (.tslice 3 1 [(.int .i64 0)] 2 [0,1]) [(zI 0),(zI 2)],zM 42 (.call 62) [(zI 0),zT 41],zM 43 (.tslice 3 1 [(.int .i64 0)] 2 [0,1]) [(zI 0),(zI 0)],zM 44 (.call 62) [(zI 0),zT 43],zM 45 (.tslice 61 2 [(.int .i64 0),(.slice none 0 0)] 3 [0,1,2]) [zT 40,zT 42,zT 44],zM 46 (.call 61) [zT 45],zM 47 (.call 34) [zT 32,zT 38,zT 46],zM 6 (.alloc 25 [(.slice none 0 0)]) [],⟨none,.store 1,[zT 6,zT 47],none⟩]) (.seq (.ops [zM 49 (.load true 2) [zT 1],zM 50 (.call 37) [zT 49,zN],zV 48 50,zM 51 (.ext 0) [zT 48],zM 52 (.ext 1) [zT 48],zM 7 (.alloc 25 [(.slice none 0 0)]) [],⟨none,.store 1,[zT 7,zT 51],none⟩,zV 8 52]) (.seq (.ops [zM 54 (.load true 2) [zT 1],zM 55 (.load true 1) [zT 2],zM 56 (.load true 1) [zT 3],zM 57 (.load true 1) [zT 5],zM 58 (.bslice 25 1 [(.slice none 0 0)] 3 [0,1,2]) [zT 55,zT 56,zT 57],zM 59 (.call 37) [zT 54,zT 58],zV 53 59,zM 60 (.ext 0) [zT 53],zM 61 (.ext 1) [zT 53],zM 9 (.alloc 25 [(.slice none 0 0)]) [],⟨none,.store 1,[zT 9,zT 60],none⟩,zV 10 61]) (.seq (.draw [zM 62 (.load true 2) [zT 1],zM 63 (.load true 1) [zT 2],zM 64 (.load true 1) [zT 3],zM 65 (.call 34) [zT 62,zT 63,zT 64],zM 66 (.load true 1) [zT 3],zM 67 (.call 33) [zT 65,zT 66],zV 68 67,⟨some 69,.load true 2,[zT 1],some (68,true)⟩,⟨some 70,.load true 1,[zT 4],some (68,true)⟩,⟨some 71,.load true 1,[zT 5],some (68,true)⟩,⟨some 72,.call 34,[zT 69,zT 70,zT 71],some (68,true)⟩,⟨some 73,.load true 1,[zT 5],some (68,true)⟩,⟨some 74,.call 33,[zT 72,zT 73],some (68,true)⟩,zM 75 .pick [zT 68,zT 74,zF],zV 76 75,⟨some 77,.faddr 0,[zT 6],some (76,true)⟩,⟨some 78,.load false 1,[zT 77],some (76,true)⟩,⟨some 79,.lensl,[zT 78],some (76,true)⟩,⟨some 80,.bin false .eql none,[zT 79,(zI 6)],some (76,true)⟩,zM 81 .pick [zT 76,zT 80,zF],zV 82 81,⟨some 83,.load true 1,[zT 6],some (82,true)⟩,⟨some 84,.call 63,[zT 83],some (82,true)⟩,zM 85 .pick [zT 82,zT 84,zF],zV 86 85,⟨some 87,.load true 2,[zT 1],some (86,true)⟩,⟨some 88,(.tslice 3 1 [(.int .i64 0)] 2 [0,1]),[(zI 0),(zI 1)],some (86,true)⟩,⟨some 89,.call 62,[(zI 0),zT 88],some (86,true)⟩,⟨some 90,.call 62,[(zI 1),zN],some (86,true)⟩,⟨some 91,(.tslice 61 2 [(.int .i64 0),(.slice none 0 0)] 2 [0,1]),[zT 89,zT 90],some (86,true)⟩,⟨some 92,.call 61,[zT 91],some (86,true)⟩,⟨some 93,(.tslice 3 1 [(.int .i64 0)] 2 [0,1]),[(zI 0),(zI 1)],some (86,true)⟩,⟨some 94,.call 62,[(zI 0),zT 93],some (86,true)⟩,⟨some 95,.call 62,[(zI 2),zN],some (86,true)⟩,⟨some 96,(.tslice 61 2 [(.int .i64 0),(.slice none 0 0)] 2 [0,1]),[zT 94,zT 95],some (86,true)⟩,⟨some 97,.call 61,[zT 96],some (86,true)⟩,⟨some 98,.call 34,[zT 87,zT 92,zT 97],some (86,true)⟩,⟨some 99,.load true 1,[zT 5],some (86,true)⟩,⟨some 100,.call 33,[zT 98,zT 99],some (86,true)⟩,zM 101 .pick [zT 86,zT 100,zF],zV 102 101,⟨some 103,.mv,[zT 8],some (102,true)⟩,⟨some 104,.un .not,[zT 103],some (102,true)⟩,zM 105 .pick [zT 102,zT 104,zF],zV 106 105,⟨some 107,.mv,[zT 10],some (106,true)⟩,zM 108 .pick [zT 106,zT 107,zF],zV 109 108,⟨some 110,.load true 1,[zT 9],some (109,true)⟩,⟨some 111,.load true 1,[zT 5],some (109,true)⟩,⟨some 112,.call 33,[zT 110,zT 111],some (109,true)⟩,zM 113 .pick [zT 109,zT 112,zF],zV 0 113]) .ret)))))))))
theorem C1n:FnOK Try.prog G 32 0 114 B0b [(.tmp 0)]:=⟨Try.f32,Try.func32,by kernel_rfl,by kernel_rfl,by kernel_rfl,by kernel_rfl⟩
def A7y:A0n:=(.seq (.ops [zM 6 .mv [zF]]) (.seq (.ops [zM 9 (.load false 1) [zT 1],zV 10 0,zM 11 (.iaddr 1) [zT 9,zT 10],⟨none,.store 1,[zT 11,zW],none⟩]) (.seq (.seq (.ops [zM 12 (.faddr 0) [zT 2],zM 13 (.load false 1) [zT 12],zV 14 0,zM 15 (.iaddr 2) [zT 13,zT 14],zM 16 (.faddr 1) [zT 15],zM 17 (.load false 1) [zT 16],zM 18 .lensl [zT 17],zM 19 .mv [(zI 0)]]) (.block 0 (.loop (.seq (.ops [zM 20 (.bin false .lss none) [zT 19,zT 18]]) (.seq (.cond (zT 20) .skip (.exit 0)) (.seq (.block 1 (.seq (.ops [zM 21 (.iaddr 2) [zT 17,zT 19],zM 22 (.load true 2) [zT 21],zM 8 (.alloc 81 [(.int .i64 0),(.int .i64 0)]) [],⟨none,.store 2,[zT 8,zT 22],none⟩]) (.seq (.ops [zM 23 (.load false 1) [zT 1],zM 24 (.faddr 1) [zT 8],zM 25 (.load false 1) [zT 24],zM 26 (.iaddr 1) [zT 23,zT 25],zM 27 (.load false 1) [zT 26],zV 28 27,⟨some 29,.load false 1,[zT 3],some (28,false)⟩,⟨some 30,.faddr 1,[zT 8],some (28,false)⟩,⟨some 31,.load false 1,[zT 30],some (28,false)⟩,⟨some 32,.iaddr 1,[zT 29,zT 31],some (28,false)⟩,⟨some 33,.load false 1,[zT 32],some (28,false)⟩,⟨some 34,.un .not,[zT 33],some (28,false)⟩,⟨some 35,.mv,[zT 34],some (28,false)⟩,⟨some 36,.load false 1,[zT 4],some (35,true)⟩,⟨some 37,.faddr 1,[zT 8],some (35,true)⟩,⟨some 38,.load false 1,[zT 37],some (35,true)⟩,⟨some 39,.callv,[zT 36,zT 38],some (35,true)⟩,⟨some 40,.pick,[zT 35,zT 39,zF],some (28,false)⟩,zM 41 .pick [zT 28,zW,zT 40]]) (.cond (zT 41) (.seq (.ops [zM 6 .mv [zW]]) .ret) .skip)))) (.ops [zM 42 (.bin false .add none) [zT 19,(zI 1)],zV 19 42]))))))) (.seq (.drawG 0 [(.o ⟨some 43,.load false 1,[zT 1],none⟩ false []),(.o ⟨some 44,.mv,[zT 0],none⟩ false []),(.o ⟨some 45,.load false 1,[zT 3],none⟩ true []),(.o ⟨some 46,.mv,[zT 0],none⟩ false []),(.o ⟨some 47,.iaddr 1,[zT 43,zT 44],none⟩ false []),(.o ⟨none,.store 1,[zT 47,zF],none⟩ false [2]),(.o ⟨some 48,.iaddr 1,[zT 45,zT 46],none⟩ false []),(.o ⟨none,.store 1,[zT 48,zW],none⟩ false [])]) (.seq (.ops [zM 6 .mv [zF]]) .ret)))))
theorem C5i:FnOK Try.prog G 86 1 49 A7y [(.tmp 6)]:=⟨Try.f86,Try.func86,by kernel_rfl,by kernel_rfl,by kernel_rfl,by kernel_rfl⟩
noncomputable def b63:Code:=match Try.f63.body with
 | some c=>c
 | none=>.skip
def H2g:Code->Code
 | .seq x _=>x
 | c=>c
def G9b:Code->Code
 | .seq _ y=>y
 | c=>c
def opsC:Code->Array Oper
 | .region _ ops _=>ops
 | _=>#[]
noncomputable def c63a:Code:=H2g b63
noncomputable def o63:Array Oper:=opsC (H2g (G9b b63))
noncomputable def c63b:Code:=G9b (G9b b63)
theorem G4t:Try.f63.body=some b63:=by kernel_rfl
theorem H2h:b63 = .seq c63a (.seq (.region 1 o63 true) c63b):=by kernel_rfl
def M63a:A0n:=(.ops [⟨(some 1),(.box 25),[(.tmp 0)],none⟩,⟨(some 2),.mv,[(.k (.t (.v (.bool false))))],none⟩])
def M63b:A0n:=(.seq (.ops [⟨(some 5),(.alloc 133 [.nilFunc]),[],none⟩]) (.seq (.ops [⟨(some 15),(.ex (.mkf (.func 86) 0)),[(.tmp 3),(.tmp 1),(.tmp 4),(.tmp 5)],none⟩,⟨none,(.store 1),[(.tmp 5),(.tmp 15)],none⟩]) (.seq (.seq (.ops [⟨(some 16),(.faddr 0),[(.tmp 1)],none⟩,⟨(some 17),(.load false 1),[(.tmp 16)],none⟩,⟨(some 18),.lensl,[(.tmp 17)],none⟩,⟨(some 19),.mv,[(.k (.t (.v (.int .i64 0))))],none⟩]) (.block 0 (.loop (.seq (.ops [⟨(some 20),(.bin false .lss none),[(.tmp 19),(.tmp 18)],none⟩]) (.seq (.cond (.tmp 20) .skip (.exit 0)) (.seq (.block 1 (.seq (.ops [⟨(some 21),.mv,[(.tmp 19)],none⟩,⟨(some 6),.mv,[(.tmp 21)],none⟩]) (.seq (.ops [⟨(some 22),(.load false 1),[(.tmp 4)],none⟩,⟨(some 23),.mv,[(.tmp 6)],none⟩,⟨(some 24),(.iaddr 1),[(.tmp 22),(.tmp 23)],none⟩,⟨(some 25),(.load false 1),[(.tmp 24)],none⟩,⟨(some 26),(.un .not),[(.tmp 25)],none⟩,⟨(some 27),.mv,[(.tmp 26)],none⟩,⟨(some 28),(.load false 1),[(.tmp 5)],(some (27,true))⟩,⟨(some 29),.mv,[(.tmp 6)],(some (27,true))⟩,⟨(some 30),.callv,[(.tmp 28),(.tmp 29)],(some (27,true))⟩,⟨(some 31),.pick,[(.tmp 27),(.tmp 30),(.k (.t (.v (.bool false))))],none⟩]) (.cond (.tmp 31) (.seq (.ops [⟨(some 2),.mv,[(.k (.t (.v (.bool true))))],none⟩]) .ret) .skip)))) (.ops [⟨(some 32),(.bin false .add none),[(.tmp 19),(.k (.t (.v (.int .i64 1))))],none⟩,⟨(some 19),.mv,[(.tmp 32)],none⟩]))))))) (.seq (.ops [⟨(some 2),.mv,[(.k (.t (.v (.bool false))))],none⟩]) .ret))))
def l63:List Mini:=[⟨(some 7),(.faddr 0),[(.tmp 1)],none⟩,⟨(some 8),(.load false 1),[(.tmp 7)],none⟩,⟨(some 9),.lensl,[(.tmp 8)],none⟩,⟨(some 10),(.make 4 1 1 [(.bool false)]),[(.tmp 9),(.tmp 9)],none⟩,⟨(some 11),(.faddr 0),[(.tmp 1)],none⟩,⟨(some 12),(.load false 1),[(.tmp 11)],none⟩,⟨(some 13),.lensl,[(.tmp 12)],none⟩,⟨(some 14),(.make 4 1 1 [(.bool false)]),[(.tmp 13),(.tmp 13)],none⟩,⟨(some 3),(.alloc 132 [(.slice none 0 0)]),[],none⟩,⟨(some 4),(.alloc 132 [(.slice none 0 0)]),[],none⟩,⟨none,(.store 1),[(.tmp 3),(.tmp 10)],none⟩,⟨none,(.store 1),[(.tmp 4),(.tmp 14)],none⟩]
theorem G9c:comp Try.prog G 33 c63a=some M63a:=by kernel_rfl
theorem G9d:comp Try.prog G 33 c63b=some M63b:=by kernel_rfl
theorem H2i:o63.toList.mapM (A2c Try.prog G 33 true o63)=some l63:=by kernel_rfl
def G4u (ops:Array Oper) (dp:List (List Nat)):Bool:=(List.range ops.size).all fun i=>(dp.getD i []).all fun d=>match ops[i]? with
 | some o=>o.after.toList.any fun e=>e.on==d&&Region.binds .any e
 | none=>false
def G4v (ops:Array Oper):Bool:=(List.range ops.size).all fun i=>match ops[i]? with
 | some o=>o.after.toList.all fun e=>!(Region.binds .any e)||decide (e.on<i)
 | none=>false
def dp63:List (List Nat):=[[],[0],[1],[2],[],[4],[5],[6],[],[],[3,8,9],[7,9,10]]
theorem G9e:G4u o63 dp63=true:=by kernel_rfl
theorem F9s:G4v o63=true:=by kernel_rfl
theorem H2j:o63.size=12:=by kernel_rfl
theorem E4z {ops:Array Oper} {dp:List (List Nat)} (h:G4u ops dp=true) {i:Nat} {o:Oper} (ho:ops[i]?=some o) {b:Nat->Bool} (hb:∀e∈o.after.toList,Region.binds .any e=true->b e.on=true):∀d∈dp.getD i [],b d=true:=by
 intro d hd
 have hi:i<ops.size:=(Array.getElem?_eq_some_iff.1 ho).1
 have h1:=List.all_eq_true.1 h i (List.mem_range.2 hi)
 have h2:=List.all_eq_true.1 h1 d hd
 rw[ho]at h2
 obtain⟨e,he,h3⟩:=List.any_eq_true.1 h2
 simp only[Bool.and_eq_true,beq_iff_eq]at h3
 rw[<-h3.1]
 exact hb e he h3.2
theorem E5a {ops:Array Oper} (h:G4v ops=true) (i:Nat) (o:Oper) (ho:ops[i]?=some o):∀e∈o.after.toList,Region.binds .any e=true->e.on<i:=by
 intro e he hb
 have hi:i<ops.size:=(Array.getElem?_eq_some_iff.1 ho).1
 have h1:=List.all_eq_true.1 h i (List.mem_range.2 hi)
 rw[ho]at h1
 have h2:=List.all_eq_true.1 h1 e he
 rw[hb]at h2
 simpa using h2
def z63:Row:=.cells 4 [.t (bv false),.t (bv false),.t (bv false),.t (bv false),.t (bv false),.t (bv false)]
def e63 (t:T) (b:Nat->Bool):List (Nat×PV):=
 [(7,if b 0 then .ptr 0 0 else .dead),(8,if b 1 then .t t else .dead),(9,if b 2 then .t (iv 6)else .dead),(10,if b 3 then .row 1 0 6 1 else .dead),
  (11,if b 4 then .ptr 0 0 else .dead),(12,if b 5 then .t t else .dead),(13,if b 6 then .t (iv 6)else .dead),(14,if b 7 then .row 2 0 6 1 else .dead),
  (3,if b 8 then .ptr 3 0 else .dead),(4,if b 9 then .ptr 4 0 else .dead),(2,.t (bv false)),(1,.ptr 0 0)]
def r63 (c:Bool) (k:Nat):Row:=.cells 132 [if c then .row k 0 6 1 else .t nilS]
def h63 (t:T) (b:Nat->Bool):Heap:=(0,fsR t)::((if b 3 then [(1,z63)]else [])++((if b 7 then [(2,z63)]else [])++((if b 8 then [(3,r63 (b 10) 1)]else [])++(if b 9 then [(4,r63 (b 11) 2)]else []))))
def s63 (t:T) (b:Nat->Bool):A0b:=⟨e63 t b,h63 t b,5,33⟩
structure Ok63 (b:Nat->Bool):Prop where
 a:b 10=true->b 3=true/\b 8=true
 c:b 11=true->b 7=true/\b 9=true
theorem E8s (t:T) (b:Nat->Bool):Abs.look (h63 t b) 0=some (fsR t)/\(b 3=true->Abs.look (h63 t b) 1=some z63)/\(b 7=true->Abs.look (h63 t b) 2=some z63)/\(b 8=true->Abs.look (h63 t b) 3=some (r63 (b 10) 1))/\(b 9=true->Abs.look (h63 t b) 4=some (r63 (b 11) 2)):=by
 unfold h63
 refine⟨rfl,fun h=>?_,fun h=>?_,fun h=>?_,fun h=>?_⟩
 ·rw[h];rfl
 ·rw[h];cases b 3<;>rfl
 ·rw[h];cases b 3<;>cases b 7<;>rfl
 ·rw[h];cases b 3<;>cases b 7<;>cases b 8<;>rfl
theorem G9f {t:T} {b:Nat->Bool} {q:Nat×Row} (h:q∈h63 t b):q=(0,fsR t)\/(b 3=true/\q=(1,z63))\/(b 7=true/\q=(2,z63))\/(b 8=true/\q=(3,r63 (b 10) 1))\/(b 9=true/\q=(4,r63 (b 11) 2)):=by
 unfold h63 at h
 have one:∀{c:Bool} {x:Nat×Row},q∈(if c then [x]else [])->c=true/\q=x:=fun {c x} h=>by
  cases c with
  | false=>simp at h
  | true=>exact⟨rfl,by simpa using h⟩
 rcases List.mem_cons.1 h with h | h
 ·exact .inl h
 ·rcases List.mem_append.1 h with h | h
  ·exact .inr (.inl (one h))
  ·rcases List.mem_append.1 h with h | h
   ·exact .inr (.inr (.inl (one h)))
   ·rcases List.mem_append.1 h with h | h
    ·exact .inr (.inr (.inr (.inl (one h))))
    ·exact .inr (.inr (.inr (.inr (one h))))
theorem E8t (σ:Nat->Nat) (c:Bool) (p:PV):ren σ (if c then p else .dead)=if c then ren σ p else .dead:=by cases c<;>rfl
theorem C5v (n:Nat) (c:Bool) (p:PV):under n (if c then p else .dead)=if c then under n p else true:=by cases c<;>rfl
theorem sub63 {t:T} {b b':Nat->Bool} {d k:Nat} {v:PV} {row:Row} (hk:1<=k/\k<=4) (h0:Abs.look (h63 t b) k=none\/True)
  (hrow:∀q∈h63 t b',q.1=k->A2d (fun x=>if x=k then 5 else x) q.2=row) (hsame:∀q∈h63 t b',q.1≠k->A2d (fun x=>if x=k then 5 else x) q.2=q.2/\Abs.look (h63 t b) q.1=some q.2) (hund:∀q∈h63 t b',q.1<5/\A0z 5 q.2=true)
  (he:∀q∈e63 t b',Abs.look ((d,v)::e63 t b) q.1=some (ren (fun x=>if x=k then 5 else x) q.2)/\under 5 q.2=true) :
  Sub Try.prog G 0 ⟨(d,v)::e63 t b,(5,row)::h63 t b,6,33⟩ (s63 t b'):=by
 refine B1t (fun x=>if x=k then 5 else x) rfl (Nat.zero_le _) (fun x hx=>by omega) he (fun q hq=>?_) (fun q hq q' hq' e=>?_)
 ·refine⟨?_,hund q hq⟩
  show Abs.look ((5,row)::h63 t b) (if q.1=k then 5 else q.1)=_
  by_cases e:q.1=k
  ·rw[if_pos e,look_cons,if_pos rfl,hrow q hq e]
  ·rw[if_neg e,look_cons,if_neg (by have:=(hund q hq).1;omega),(hsame q hq e).1]
   exact(hsame q hq e).2
 ·have h1:=(hund q hq).1
  have h2:=(hund q' hq').1
  have e:(if q.1=k then 5 else q.1)=(if q'.1=k then 5 else q'.1):=e
  split at e<;>split at e<;>omega
def eNat:Enc Nat:=⟨1,fun n=>[iv (n:Int)],fun _=>rfl,by omega,fun a b h=>by injection h with h;injection h with h;injection h with h;omega⟩
def ePth:Enc (List Int):=⟨1,fun p=>[A0k eInt p],fun _=>rfl,by omega,fun a b h=>by
 injection h with h
 exact(tSl eInt).uniq _ _ _ (IsS.tree eInt a) (h▸IsS.tree eInt b)⟩
def yv (l:Nat):PV:=.t (.v (.func (.yield l) #[] #[]))
def D0d:List (List Nat):=[[],[],[],[1,2],[3],[],[],[5,6],[7],[0,4,8],[9]]
theorem G4w:G4u o93Y D0d=true:=by kernel_rfl
theorem F3d:G4v o93Y=true:=by kernel_rfl
theorem G9g:o93Y.size=11:=by kernel_rfl
def opAt (ops:Array Oper) (i:Nat):Option Op:=(ops[i]?).map (·.op)
theorem op93Y:opAt o93Y 9=some (.call ⟨.value (.tmp 23),#[.tmp 27,.tmp 31],#[3,33]⟩):=by kernel_rfl
def T93Y (l i m:Nat) (N P:PV) (tp:T):List (Nat×PV×PV):=
 [(23,yv l,.dead),(24,N,.dead),(25,.t (iv (i:Int)),.dead),(26,.ptr 6 i,.dead),(27,.t (iv (m:Int)),.dead),(28,P,.dead),(29,.t (iv (i:Int)),.dead),(30,.ptr 7 i,.dead),(31,.t tp,.dead),(32,.t (bv true),.dead),(33,.t (bv false),.dead)]
def E93Y (l i:Nat) (N P s3:PV):List (Nat×PV):=[(6,.t (iv (i:Int))),(5,P),(4,N),(3,s3),(1,.ptr 3 0),(0,yv l)]
section
variable {l i m : Nat} {N P s3 : PV} {tp : T} {H H' : Heap} {Φ : A1c}
theorem nd93Y:((T93Y l i m N P tp).map (·.1)).Nodup:=by
 show [23,24,25,26,27,28,29,30,31,32,33].Nodup
 decide
theorem e93Y:∀q∈E93Y l i N P s3,q.1∉(T93Y l i m N P tp).map (·.1)/\Abs.look (E93Y l i N P s3) q.1=some q.2:=by
 intro q hq
 have e:(T93Y l i m N P tp).map (·.1)=[23,24,25,26,27,28,29,30,31,32,33]:=rfl
 rw[e]
 simp only[E93Y,List.mem_cons,List.not_mem_nil,or_false]at hq
 rcases hq with rfl | rfl | rfl | rfl | rfl | rfl<;>exact⟨by simp,rfl⟩
def s93Y (l i m:Nat) (N P s3:PV) (tp:T) (H H':Heap) (b:Nat->Bool):A0b:=⟨envB (T93Y l i m N P tp) 0 b++E93Y l i N P s3,if b 9 then H' else H,8,76⟩
theorem B5h {b:Nat->Bool} {j:Nat} {x:Nat×PV×PV} {H0:Heap} (hx:(T93Y l i m N P tp)[j]?=some x) (h:H0=if(if j=9 then true else b 9)then H' else H) :
  Sub Try.prog G 5 (({ s93Y l i m N P s3 tp H H' b with H:=H0,nx:=8 }:A0b).put (some x.1) x.2.1) (s93Y l i m N P s3 tp H H' fun k=>if j=k then true else b k):=by
 subst h
 exact E7y nd93Y e93Y hx
theorem F9t (hΦ:Φ.Sound Try.prog G) {Q:Exit->A0b->Prop} {id:Nat} (i1:A1q 1 N (.t (iv (i:Int)))=some (.ptr 6 i)) (i2:A1q 1 P (.t (iv (i:Int)))=some (.ptr 7 i))
  (l1:A0f false 1 H (.ptr 6 i)=some (.t (iv (m:Int)))) (l2:A0f false 1 H (.ptr 7 i)=some (.t tp)) (l3:A0f false 1 H' (.ptr 6 i)=some (.t (iv (m:Int)))) (l4:A0f false 1 H' (.ptr 7 i)=some (.t tp))
  (hy:F8o Try.prog G l [.t (iv (m:Int)),.t tp] H 8 (.t (bv true)) H' 8) (stop:Q .normal (s93Y l i m N P s3 tp H H' fun _=>true)):A3l Try.prog G 5 (.region id o93Y true) Q ⟨E93Y l i N P s3,H,8,76⟩:=by
 refine C1a A1u hΦ G8z (s93Y l i m N P s3 tp H H') (fun _=>True) (fun _=>rfl) (E5a F3d) ?_ trivial (fun b _ j o q ho hm hbi hdeps=>?_) (fun b _ hall=>?_)
 ·refine E0q fun q hq=>?_
  rcases List.mem_append.1 hq with hq | hq
  ·obtain⟨j,x,h1,rfl⟩:=C1b hq
   left
   have:∀x∈T93Y l i m N P tp,x.2.2 = .dead:=by simp[T93Y]
   exact this x (List.mem_of_getElem? h1)
  ·exact .inr (e93Y (m:=m) (tp:=tp) q hq).2
 ·have hd:=E4z G4w ho hdeps
  have lN:A0f false 1 (if b 9 then H' else H) (.ptr 6 i)=some (.t (iv (m:Int))):=by cases b 9<;>assumption
  have lP:A0f false 1 (if b 9 then H' else H) (.ptr 7 i)=some (.t tp):=by cases b 9<;>assumption
  rcases j with _ | _ | _ | _ | _ | _ | _ | _ | _ | _ | _ | j
  ·injection hm with hm;subst hm
   exact⟨rfl,yv l,_,8,.inl (by simp -implicitDefEqProofs [s93Y,T93Y,envB,E93Y]),trivial,B5h (j:=0) rfl rfl⟩
  ·injection hm with hm;subst hm
   exact⟨rfl,N,_,8,.inl (by simp -implicitDefEqProofs [s93Y,T93Y,envB,E93Y]),trivial,B5h (j:=1) rfl rfl⟩
  ·injection hm with hm;subst hm
   exact⟨rfl,.t (iv (i:Int)),_,8,.inl (by simp -implicitDefEqProofs [s93Y,T93Y,envB,E93Y]),trivial,B5h (j:=2) rfl rfl⟩
  ·injection hm with hm;subst hm
   have d1:b 1=true:=hd 1 (by simp[D0d])
   have d2:b 2=true:=hd 2 (by simp[D0d])
   exact⟨rfl,.ptr 6 i,_,8,.inl (by simp -implicitDefEqProofs [s93Y,T93Y,envB,E93Y,d1,d2,i1]),trivial,B5h (j:=3) rfl rfl⟩
  ·injection hm with hm;subst hm
   have d3:b 3=true:=hd 3 (by simp[D0d])
   exact⟨rfl,.t (iv (m:Int)),_,8,.inl (by simp -implicitDefEqProofs [s93Y,T93Y,envB,E93Y,d3,lN]),trivial,B5h (j:=4) rfl rfl⟩
  ·injection hm with hm;subst hm
   exact⟨rfl,P,_,8,.inl (by simp -implicitDefEqProofs [s93Y,T93Y,envB,E93Y]),trivial,B5h (j:=5) rfl rfl⟩
  ·injection hm with hm;subst hm
   exact⟨rfl,.t (iv (i:Int)),_,8,.inl (by simp -implicitDefEqProofs [s93Y,T93Y,envB,E93Y]),trivial,B5h (j:=6) rfl rfl⟩
  ·injection hm with hm;subst hm
   have d1:b 5=true:=hd 5 (by simp[D0d])
   have d2:b 6=true:=hd 6 (by simp[D0d])
   exact⟨rfl,.ptr 7 i,_,8,.inl (by simp -implicitDefEqProofs [s93Y,T93Y,envB,E93Y,d1,d2,i2]),trivial,B5h (j:=7) rfl rfl⟩
  ·injection hm with hm;subst hm
   have d3:b 7=true:=hd 7 (by simp[D0d])
   exact⟨rfl,.t tp,_,8,.inl (by simp -implicitDefEqProofs [s93Y,T93Y,envB,E93Y,d3,lP]),trivial,B5h (j:=8) rfl rfl⟩
  ·injection hm with hm;subst hm
   have d0:b 0=true:=hd 0 (by simp[D0d])
   have d4:b 4=true:=hd 4 (by simp[D0d])
   have d8:b 8=true:=hd 8 (by simp[D0d])
   have hop:o.op = .call ⟨.value (.tmp 23),#[.tmp 27,.tmp 31],#[3,33]⟩:=by
    have:=op93Y
    unfold opAt at this
    rw[ho]at this
    injection this
   refine⟨rfl,.t (bv true),H',8,.inr (.inl (F8p (l:=l) hop ?_ ?_)),trivial,B5h (j:=9) rfl rfl⟩
   ·simp[A0b.ev,s93Y,T93Y,envB,Abs.look,d0,yv]
   ·have e:(s93Y l i m N P s3 tp H H' b).H=H:=by
     show(if b 9 then H' else H)=H
     rw[hbi]
     rfl
    rw[e]
    have e2:(#[Operand.tmp 27,Operand.tmp 31].toList.map ((s93Y l i m N P s3 tp H H' b).ev G))=[.t (iv (m:Int)),.t tp]:=by
     simp[A0b.ev,s93Y,T93Y,envB,Abs.look,d4,d8]
    rw[e2]
    exact hy
  ·injection hm with hm;subst hm
   have d9:b 9=true:=hd 9 (by simp[D0d])
   exact⟨rfl,.t (bv false),_,8,.inl (by simp -implicitDefEqProofs [s93Y,T93Y,envB,E93Y,d9]),trivial,B5h (j:=10) rfl rfl⟩
  ·simp[l93Y]at hm
 ·have h:=fun i hi=>hall i (by rw[G9g];exact hi)
  have e:s93Y l i m N P s3 tp H H' b=s93Y l i m N P s3 tp H H' fun _=>true:=by
   simp only[s93Y,T93Y,envB,h 0 (by omega),h 1 (by omega),h 2 (by omega),h 3 (by omega),h 4 (by omega),h 5 (by omega),h 6 (by omega),h 7 (by omega),h 8 (by omega),h 9 (by omega),h 10 (by omega)]
  rw[e]
  exact stop
end
end Go.Proofs.Ytbiadmfmjnoecaa
