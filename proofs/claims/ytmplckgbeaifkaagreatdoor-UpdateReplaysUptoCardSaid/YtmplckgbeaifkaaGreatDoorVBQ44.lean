/-
 Auxiliary facts. No statement of the program stands here.
-/
import Derived.Test.YtmplckgbeaifkaaGreatDoorVBQ40
import Derived.Test.YtmplckgbeaifkaaGreatDoorVBQ33
namespace Go.Proofs.YtmplckgbeaifkaaGreatDoor
set_option linter.unusedSimpArgs false
set_option linter.unusedVariables false
open Go Go.Abs
def A7h:A0i:=(jO [jM 2 (.box 28) [jT 0],jM 4 .mv [jF]] (.seq (jO [jM 11 (.load true 9) [jT 2],jM 12 (.call 16) [jT 11],jM 13 (.un .not) [jT 12],jV 14 13,jX 15 1 14 false,jG 16 (.call 17) [jT 15] 14 false,jG 17 (.un .not) [jT 16] 14 false,jM 18 .pick [jT 14,jW,jT 17]] (.cond (jT 18) (jO [jM 19 (.call 18) [],jV 4 19] .ret) .skip)) (jO [jM 21 (.load true 9) [jT 2],jV 22 1,jM 23 (.call 19) [jT 21,jT 22],jV 20 23,jM 24 (.ext 0) [jT 20],jM 25 (.ext 1) [jT 20],jM 26 (.ext 2) [jT 20],jM 5 (.alloc 28 [(.string ⟨#[]⟩),(.slice none 0 0),(.int .i64 0),(.slice none 0 0),(.int .i64 0),(.string ⟨#[]⟩),(.int .i64 0),(.int .i64 0),(.slice none 0 0)]) [],⟨none,.store 9,[jT 5,jT 24],none⟩,jV 6 25,jV 7 26] (jO [jM 28 (.load true 9) [jT 2],jV 29 1,jM 30 (.call 20) [jT 28,jT 29],jV 27 30,jM 31 (.ext 0) [jT 27],jM 32 (.ext 1) [jT 27],jM 33 (.ext 2) [jT 27],jM 8 (.alloc 28 [(.string ⟨#[]⟩),(.slice none 0 0),(.int .i64 0),(.slice none 0 0),(.int .i64 0),(.string ⟨#[]⟩),(.int .i64 0),(.int .i64 0),(.slice none 0 0)]) [],⟨none,.store 9,[jT 8,jT 31],none⟩,jV 9 32,jV 10 33] (jO [jV 34 6,jV 35 9,jM 36 (jB .eql) [jT 34,jT 35],jV 37 36,jX 38 7 37 true,jX 39 10 37 true,jG 40 (jB .eql) [jT 38,jT 39] 37 true,jM 41 .pick [jT 37,jT 40,jF],jV 42 41,jG 43 (.load true 9) [jT 5] 42 true,jG 44 (.load true 9) [jT 8] 42 true,jG 45 (.call 21) [jT 43,jT 44] 42 true,jM 46 .pick [jT 42,jT 45,jF],jV 47 46,jG 48 (.call 18) [] 47 true,jM 49 .pick [jT 47,jT 48,jF],jV 4 49] .ret)))))
theorem B3g {q:Gl}:FnOK Tryz.prog (G q) 3 2 50 A7h [(.tmp 4)]:=⟨Tryz.f3,Tryz.func3,by kernel_rfl,by kernel_rfl,by kernel_rfl,by kernel_rfl⟩
end Go.Proofs.YtmplckgbeaifkaaGreatDoor
