/-
 Auxiliary facts. No statement of the program stands here.
-/
import Derived.Test.YtmplckgbeaifkaaGreatDoorVBQ39
namespace Go.Proofs.YtmplckgbeaifkaaGreatDoor
set_option linter.unusedSimpArgs false
set_option linter.unusedVariables false
open Go Go.Abs
def C1i:A0i:=(jO [jM 1 (.box 28) [jT 0],jM 2 .mv [jF]] (jO [jM 3 (.load true 9) [jT 1],jM 4 (.call 22) [jT 3],jV 5 4,jG 6 (.load true 9) [jT 1] 5 true,jG 7 (.bslice 28 9 [(.string ⟨#[]⟩),(.slice none 0 0),(.int .i64 0),(.slice none 0 0),(.int .i64 0),(.string ⟨#[]⟩),(.int .i64 0),(.int .i64 0),(.slice none 0 0)] 1 [0]) [jT 6] 5 true,jG 8 (.build [(0,1),(1,1)] [(.string ⟨#[]⟩),(.slice none 0 0)] [0,1]) [(.k (.t (.v (.string ⟨#[118]⟩)))),jT 7] 5 true,jG 9 (.call 27) [jT 8] 5 true,jG 10 (jB .eql) [jT 9,(jI 0)] 5 true,jM 11 .pick [jT 5,jT 10,jF],jV 2 11] .ret))
theorem D3w {q:Gl}:FnOK Tryz.prog (G q) 16 1 12 C1i [(.tmp 2)]:=⟨Tryz.f16,Tryz.func16,by kernel_rfl,by kernel_rfl,by kernel_rfl,by kernel_rfl⟩
end Go.Proofs.YtmplckgbeaifkaaGreatDoor
