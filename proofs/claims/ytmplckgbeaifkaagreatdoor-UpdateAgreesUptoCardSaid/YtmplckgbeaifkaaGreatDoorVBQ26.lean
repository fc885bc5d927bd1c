/-
 Auxiliary facts. No statement of the program stands here.
-/
import Derived.Test.YtmplckgbeaifkaaGreatDoorVBQ24
namespace Go.Proofs.YtmplckgbeaifkaaGreatDoor
set_option linter.unusedSimpArgs false
set_option linter.unusedVariables false
open Go Go.Abs
def C9l:A0i:=(jO [jM 3 (.box 26) [jT 1],jM 4 .mv [jF]] (.seq (jO [jM 5 .mv [jI 0]] (.block 0 (.loop (.seq (jO [jV 6 5,jV 7 0,jM 8 .lensl [jT 7],jM 9 (jB .lss) [jT 6,jT 8]] (.cond (jT 9) .skip (.exit 0))) (.seq (.block 1 (.seq (.draw [jV 12 0,jV 13 5,jM 14 (.iaddr 5) [jT 12,jT 13],jM 15 (.load true 5) [jT 14],jM 16 (.load true 5) [jT 3],jM 17 (.call 31) [jT 15,jT 16],jM 18 (jB .eql) [jT 17,(jI 0)]]) (.cond (jT 18) (jO [jM 4 .mv [jW]] .ret) .skip))) (.ops [jV 10 5,jM 11 (jB .add) [jT 10,(jI 1)],jV 5 11])))))) (jO [jM 4 .mv [jF]] .ret)))
theorem E3o {q:Gl}:FnOK Tryz.prog (G q) 33 2 19 C9l [(.tmp 4)]:=⟨Tryz.f33,Tryz.func33,by kernel_rfl,by kernel_rfl,by kernel_rfl,by kernel_rfl⟩
def B7f:A0i:=(jO [jM 2 (.box 26) [jT 0],jM 3 (.box 59) [jT 1],jM 4 .mv [jF]] (.seq (.draw [jM 5 (.load true 5) [jT 2],jM 6 (.call 68) [jT 5],jM 7 (.load true 4) [jT 3],jM 8 (.call 67) [jT 6,jT 7],jV 4 8]) .ret))
theorem C9m {q:Gl}:FnOK Tryz.prog (G q) 34 2 9 B7f [(.tmp 4)]:=⟨Tryz.f34,Tryz.func34,by kernel_rfl,by kernel_rfl,by kernel_rfl,by kernel_rfl⟩
end Go.Proofs.YtmplckgbeaifkaaGreatDoor
