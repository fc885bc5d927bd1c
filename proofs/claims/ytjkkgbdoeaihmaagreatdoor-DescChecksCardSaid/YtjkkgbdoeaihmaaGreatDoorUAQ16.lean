/-
 Auxiliary facts. No statement of the program stands here.
-/
import Derived.Test.YtjkkgbdoeaihmaaGreatDoorUAQ11
import Derived.Test.YtjkkgbdoeaihmaaGreatDoorUAQ13
import Derived.Test.YtjkkgbdoeaihmaaGreatDoorUAQ12
namespace Go.Proofs.YtjkkgbdoeaihmaaGreatDoor
set_option linter.unusedSimpArgs false
set_option linter.unusedVariables false
open Go Go.Abs
def M_text_Name : MCode := (.seq (.ops [⟨some 2, .mv,[(.k (.t (.v (.bool false))))],none⟩]) (.seq (.ops [⟨some 3, .mv,[.tmp 0],none⟩,⟨some 4, .hcall 112,[.tmp 3, (.k (.t (.v (.func (.func 91) #[] #[]))))],none⟩,⟨some 2, .mv,[.tmp 4],none⟩]) .ret))
theorem k_text_Name {q : Gl} : FnOK Tryz.prog (G q) 72 1 5 M_text_Name [(.tmp 2)] := ⟨Tryz.f72, Tryz.func72, by kernel_rfl, by kernel_rfl, by kernel_rfl, by kernel_rfl⟩
def M_r01_Name : MCode := (.seq (.ops [⟨some 2, .mv,[(.k (.t (.v (.bool false))))],none⟩]) (.seq (.ops [⟨some 3, .mv,[.tmp 0],none⟩,⟨some 4, .call 114,[.tmp 3, (.k (.t (.v (.bool false))))],none⟩,⟨some 2, .mv,[.tmp 4],none⟩]) .ret))
theorem k_r01_Name {q : Gl} : FnOK Tryz.prog (G q) 77 1 5 M_r01_Name [(.tmp 2)] := ⟨Tryz.f77, Tryz.func77, by kernel_rfl, by kernel_rfl, by kernel_rfl, by kernel_rfl⟩
def M_text_Feature : MCode := (.seq (.ops [⟨some 2, .mv,[(.k (.t (.v (.bool false))))],none⟩]) (.seq (.ops [⟨some 3, .mv,[.tmp 0],none⟩,⟨some 4, .hcall 112,[.tmp 3, (.k (.t (.v (.func (.func 93) #[] #[]))))],none⟩,⟨some 2, .mv,[.tmp 4],none⟩]) .ret))
theorem k_text_Feature {q : Gl} : FnOK Tryz.prog (G q) 75 1 5 M_text_Feature [(.tmp 2)] := ⟨Tryz.f75, Tryz.func75, by kernel_rfl, by kernel_rfl, by kernel_rfl, by kernel_rfl⟩
def M_r01_Feature : MCode := (.seq (.ops [⟨some 2, .mv,[(.k (.t (.v (.bool false))))],none⟩]) (.seq (.ops [⟨some 3, .mv,[.tmp 0],none⟩,⟨some 4, .call 114,[.tmp 3, (.k (.t (.v (.bool true))))],none⟩,⟨some 2, .mv,[.tmp 4],none⟩]) .ret))
theorem k_r01_Feature {q : Gl} : FnOK Tryz.prog (G q) 78 1 5 M_r01_Feature [(.tmp 2)] := ⟨Tryz.f78, Tryz.func78, by kernel_rfl, by kernel_rfl, by kernel_rfl, by kernel_rfl⟩
def M_text_Number : MCode := (.seq (.ops [⟨some 2, .mv,[(.k (.t (.v (.int .i64 0))))],none⟩,⟨some 3, .mv,[(.k (.t (.v (.int .i64 0))))],none⟩]) (.seq (.ops [⟨some 7, .mv,[.tmp 0],none⟩,⟨some 8, .call 130,[.tmp 7, (.k (.t (.v (.string ⟨#[45]⟩))))],none⟩,⟨some 4, .mv,[.tmp 8],none⟩]) (.seq (.seq (.ops [⟨some 9, .mv,[.tmp 4],none⟩,⟨some 10, .bin false .eql none,[.tmp 9, (.k (.t (.v (.string ⟨#[]⟩))))],none⟩,⟨some 11, .mv,[.tmp 10],none⟩,⟨some 12, .mv,[.tmp 4],some (11, false)⟩,⟨some 13, .call 131,[.tmp 12, (.k (.t (.v (.string ⟨#[48, 49, 50, 51, 52, 53, 54, 55, 56, 57]⟩))))],some (11, false)⟩,⟨some 14, .bin false .neq none,[.tmp 13, (.k (.t (.v (.string ⟨#[]⟩))))],some (11, false)⟩,⟨some 15, .pick,[.tmp 11, (.k (.t (.v (.bool true)))),.tmp 14],none⟩,⟨some 16, .mv,[.tmp 15],none⟩,⟨some 17, .mv,[.tmp 4],some (16, false)⟩,⟨some 18, .index,[.tmp 17, (.k (.t (.v (.int .i64 0))))],some (16, false)⟩,⟨some 19, .bin false .eql none,[.tmp 18, (.k (.t (.v (.int .u8 48))))],some (16, false)⟩,⟨some 20, .mv,[.tmp 19],some (16, false)⟩,⟨some 21, .mv,[.tmp 0],some (20, true)⟩,⟨some 22, .bin false .neq none,[.tmp 21, (.k (.t (.v (.string ⟨#[48]⟩))))],some (20, true)⟩,⟨some 23, .pick,[.tmp 20,.tmp 22, (.k (.t (.v (.bool false))))],some (16, false)⟩,⟨some 24, .pick,[.tmp 16, (.k (.t (.v (.bool true)))),.tmp 23],none⟩]) (.cond (.tmp 24) (.seq (.ops [⟨some 2, .mv,[(.k (.t (.v (.int .i64 0))))],none⟩,⟨some 3, .mv,[(.k (.t (.v (.int .i64 8))))],none⟩]) .ret) .skip)) (.seq (.ops [⟨some 26, .mv,[.tmp 0],none⟩,⟨some 27, .call 132,[.tmp 26],none⟩,⟨some 25, .mv,[.tmp 27],none⟩,⟨some 28, .ext 0,[.tmp 25],none⟩,⟨some 29, .ext 1,[.tmp 25],none⟩,⟨some 5, .mv,[.tmp 28],none⟩,⟨some 6, .mv,[.tmp 29],none⟩]) (.seq (.seq (.ops [⟨some 30, .mv,[.tmp 6],none⟩,⟨some 31, (.bin false .neq (some .ifc)),[.tmp 30, (.k (.t (.v .nilIface)))],none⟩]) (.cond (.tmp 31) (.seq (.ops [⟨some 2, .mv,[(.k (.t (.v (.int .i64 0))))],none⟩,⟨some 3, .mv,[(.k (.t (.v (.int .i64 2))))],none⟩]) .ret) .skip)) (.seq (.ops [⟨some 32, .mv,[.tmp 5],none⟩,⟨some 2, .mv,[.tmp 32],none⟩,⟨some 3, .mv,[(.k (.t (.v (.int .i64 0))))],none⟩]) .ret))))))
theorem k_text_Number {q : Gl} : FnOK Tryz.prog (G q) 119 1 33 M_text_Number [(.tmp 2), (.tmp 3)] := ⟨Tryz.f119, Tryz.func119, by kernel_rfl, by kernel_rfl, by kernel_rfl, by kernel_rfl⟩
def M_text_Scan : MCode := (.seq (.ops [⟨some 2, .mv,[(.k (.t (.v (.slice none 0 0))))],none⟩,⟨some 3, .mv,[(.k (.t (.v (.int .i64 0))))],none⟩,⟨some 4, .mv,[(.k (.t (.v (.int .i64 0))))],none⟩]) (.seq (.seq (.ops [⟨some 9, .mv,[.tmp 0],none⟩,⟨some 10, .lenstr,[.tmp 9],none⟩,⟨some 11, .bin false .gtr none,[.tmp 10, (.k (.t (.v (.int .i64 65536))))],none⟩]) (.cond (.tmp 11) (.seq (.ops [⟨some 2, .mv,[(.k (.t (.v (.slice none 0 0))))],none⟩,⟨some 3, .mv,[(.k (.t (.v (.int .i64 0))))],none⟩,⟨some 4, .mv,[(.k (.t (.v (.int .i64 7))))],none⟩]) .ret) .skip)) (.seq (.ops [⟨some 12, .mv,[.tmp 0],none⟩,⟨some 13, (.build [(0, 1), (1, 1), (2, 1)] [(.string ⟨#[]⟩), (.int .i64 0), (.int .i64 0)] [0, 2]),[.tmp 12, (.k (.t (.v (.int .i64 1))))],none⟩,⟨some 14, .box 89,[.tmp 13],none⟩,⟨some 5, .mv,[.tmp 14],none⟩]) (.seq (.ops [⟨some 6, .mv,[(.k (.t (.v (.slice none 0 0))))],none⟩]) (.seq (.seq (.ops [⟨some 15, .mv,[.tmp 5],none⟩,⟨some 16, .hcall 61,[.tmp 15],none⟩]) (.block 0 (.loop (.seq (.seq (.ops [⟨some 17, .mv,[.tmp 5],none⟩,⟨some 18, .chk,[.tmp 17],none⟩,⟨some 19, .faddr 1,[.tmp 18],none⟩,⟨some 20, .load false 1,[.tmp 19],none⟩,⟨some 21, .mv,[.tmp 0],none⟩,⟨some 22, .lenstr,[.tmp 21],none⟩,⟨some 23, .bin false .lss none,[.tmp 20,.tmp 22],none⟩]) (.cond (.tmp 23) .skip (.exit 0))) (.seq (.block 1 (.seq (.ops [⟨some 27, .mv,[.tmp 5],none⟩,⟨some 28, .hcall 62,[.tmp 27],none⟩,⟨some 26, .mv,[.tmp 28],none⟩,⟨some 29, .ext 0,[.tmp 26],none⟩,⟨some 30, .ext 1,[.tmp 26],none⟩,⟨some 7, (.alloc 44 [(.int .i64 0), (.string ⟨#[]⟩), (.int .i64 0)]),[],none⟩,⟨none, .store 3,[.tmp 7,.tmp 29],none⟩,⟨some 8, .mv,[.tmp 30],none⟩]) (.seq (.seq (.ops [⟨some 31, .mv,[.tmp 8],none⟩,⟨some 32, .bin false .neq none,[.tmp 31, (.k (.t (.v (.int .i64 0))))],none⟩]) (.cond (.tmp 32) (.seq (.draw [⟨some 33, .mv,[.tmp 5],none⟩,⟨some 34, .chk,[.tmp 33],none⟩,⟨some 35, .faddr 2,[.tmp 34],none⟩,⟨some 36, .load false 1,[.tmp 35],none⟩,⟨some 37, .mv,[.tmp 8],none⟩,⟨some 2, .mv,[(.k (.t (.v (.slice none 0 0))))],none⟩,⟨some 3, .mv,[.tmp 36],none⟩,⟨some 4, .mv,[.tmp 37],none⟩]) .ret) .skip)) (.ops [⟨some 38, .mv,[.tmp 6],none⟩,⟨some 39, .load true 3,[.tmp 7],none⟩,⟨some 40, (.bslice 44 3 [(.int .i64 0), (.string ⟨#[]⟩), (.int .i64 0)] 1 [0]),[.tmp 39],none⟩,⟨some 41, .app 44 3 32,[.tmp 38,.tmp 40],none⟩,⟨some 6, .mv,[.tmp 41],none⟩])))) (.ops [⟨some 24, .mv,[.tmp 5],none⟩,⟨some 25, .hcall 61,[.tmp 24],none⟩])))))) (.seq (.ops [⟨some 42, .mv,[.tmp 6],none⟩,⟨some 2, .mv,[.tmp 42],none⟩,⟨some 3, .mv,[(.k (.t (.v (.int .i64 0))))],none⟩,⟨some 4, .mv,[(.k (.t (.v (.int .i64 0))))],none⟩]) .ret))))))
theorem k_text_Scan {q : Gl} : FnOK Tryz.prog (G q) 36 1 43 M_text_Scan [(.tmp 2), (.tmp 3), (.tmp 4)] := ⟨Tryz.f36, Tryz.func36, by kernel_rfl, by kernel_rfl, by kernel_rfl, by kernel_rfl⟩
def M_text_follows : MCode := (.seq (.ops [⟨some 4, .mv,[(.k (.t (.v (.bool false))))],none⟩]) (.seq (.seq (.ops [⟨some 7, .mv,[.tmp 0],none⟩,⟨some 8, .lenstr,[.tmp 7],none⟩,⟨some 9, .bin false .eql none,[.tmp 8, (.k (.t (.v (.int .i64 0))))],none⟩,⟨some 10, .mv,[.tmp 9],none⟩,⟨some 11, .mv,[.tmp 0],some (10, false)⟩,⟨some 12, .lenstr,[.tmp 11],some (10, false)⟩,⟨some 13, .bin false .gtr none,[.tmp 12, (.k (.t (.v (.int .i64 32))))],some (10, false)⟩,⟨some 14, .pick,[.tmp 10, (.k (.t (.v (.bool true)))),.tmp 13],none⟩]) (.cond (.tmp 14) (.seq (.ops [⟨some 4, .mv,[(.k (.t (.v (.bool false))))],none⟩]) .ret) .skip)) (.seq (.seq (.ops [⟨some 15, .mv,[.tmp 0],none⟩,⟨some 16, (.hx .range),[.tmp 15],none⟩]) (.block 0 (.loop (.seq (.ops [⟨some 17, (.hx .next),[.tmp 16],none⟩,⟨some 18, .ext 0,[.tmp 17],none⟩]) (.seq (.cond (.tmp 18) .skip (.exit 0)) (.block 1 (.seq (.ops [⟨some 19, .ext 1,[.tmp 17],none⟩,⟨some 20, .ext 2,[.tmp 17],none⟩,⟨some 5, .mv,[.tmp 19],none⟩,⟨some 6, .mv,[.tmp 20],none⟩]) (.seq (.ops [⟨some 21, .mv,[.tmp 1],none⟩,⟨some 22, .mv,[.tmp 6],none⟩,⟨some 23, .callv,[.tmp 21,.tmp 22],none⟩,⟨some 24, .un .not,[.tmp 23],none⟩,⟨some 25, .mv,[.tmp 24],none⟩,⟨some 26, .mv,[.tmp 5],some (25, true)⟩,⟨some 27, .bin false .eql none,[.tmp 26, (.k (.t (.v (.int .i64 0))))],some (25, true)⟩,⟨some 28, .mv,[.tmp 27],some (25, true)⟩,⟨some 29, .mv,[.tmp 6],some (28, false)⟩,⟨some 30, .call 94,[.tmp 29],some (28, false)⟩,⟨some 31, .un .not,[.tmp 30],some (28, false)⟩,⟨some 32, .mv,[.tmp 31],some (28, false)⟩,⟨some 33, .mv,[.tmp 6],some (32, true)⟩,⟨some 34, .bin false .neq none,[.tmp 33, (.k (.t (.v (.int .i32 45))))],some (32, true)⟩,⟨some 35, .pick,[.tmp 32,.tmp 34, (.k (.t (.v (.bool false))))],some (28, false)⟩,⟨some 36, .pick,[.tmp 28, (.k (.t (.v (.bool true)))),.tmp 35],some (25, true)⟩,⟨some 37, .pick,[.tmp 25,.tmp 36, (.k (.t (.v (.bool false))))],none⟩]) (.cond (.tmp 37) (.seq (.ops [⟨some 4, .mv,[(.k (.t (.v (.bool false))))],none⟩]) .ret) .skip))))))))) (.seq (.ops [⟨some 4, .mv,[(.k (.t (.v (.bool true))))],none⟩]) .ret))))
theorem k_text_follows {q : Gl} : FnOK Tryz.prog (G q) 112 2 38 M_text_follows [(.tmp 4)] := ⟨Tryz.f112, Tryz.func112, by kernel_rfl, by kernel_rfl, by kernel_rfl, by kernel_rfl⟩
def M_text_lower : MCode := (.seq (.ops [⟨some 2, .mv,[(.k (.t (.v (.bool false))))],none⟩]) (.seq (.ops [⟨some 3, .mv,[.tmp 0],none⟩,⟨some 4, .bin false .geq none,[.tmp 3, (.k (.t (.v (.int .i32 97))))],none⟩,⟨some 5, .mv,[.tmp 4],none⟩,⟨some 6, .mv,[.tmp 0],some (5, true)⟩,⟨some 7, .bin false .leq none,[.tmp 6, (.k (.t (.v (.int .i32 122))))],some (5, true)⟩,⟨some 8, .pick,[.tmp 5,.tmp 7, (.k (.t (.v (.bool false))))],none⟩,⟨some 2, .mv,[.tmp 8],none⟩]) .ret))
theorem k_text_lower {q : Gl} : FnOK Tryz.prog (G q) 91 1 9 M_text_lower [(.tmp 2)] := ⟨Tryz.f91, Tryz.func91, by kernel_rfl, by kernel_rfl, by kernel_rfl, by kernel_rfl⟩
def M_r01_named : MCode := (.seq (.ops [⟨some 4, .mv,[(.k (.t (.v (.bool false))))],none⟩]) (.seq (.seq (.ops [⟨some 6, .mv,[.tmp 0],none⟩,⟨some 7, .lenstr,[.tmp 6],none⟩,⟨some 8, .bin false .lss none,[.tmp 7, (.k (.t (.v (.int .i64 1))))],none⟩,⟨some 9, .mv,[.tmp 8],none⟩,⟨some 10, .mv,[.tmp 0],some (9, false)⟩,⟨some 11, .lenstr,[.tmp 10],some (9, false)⟩,⟨some 12, .bin false .gtr none,[.tmp 11, (.k (.t (.v (.int .i64 32))))],some (9, false)⟩,⟨some 13, .pick,[.tmp 9, (.k (.t (.v (.bool true)))),.tmp 12],none⟩,⟨some 14, .mv,[.tmp 13],none⟩,⟨some 15, .mv,[.tmp 0],some (14, false)⟩,⟨some 16, .index,[.tmp 15, (.k (.t (.v (.int .i64 0))))],some (14, false)⟩,⟨some 17, .call 81,[.tmp 16],some (14, false)⟩,⟨some 18, .pick,[.tmp 14, (.k (.t (.v (.bool true)))),.tmp 17],none⟩,⟨some 19, .mv,[.tmp 18],none⟩,⟨some 20, .mv,[.tmp 0],some (19, false)⟩,⟨some 21, .index,[.tmp 20, (.k (.t (.v (.int .i64 0))))],some (19, false)⟩,⟨some 22, .bin false .eql none,[.tmp 21, (.k (.t (.v (.int .u8 45))))],some (19, false)⟩,⟨some 23, .pick,[.tmp 19, (.k (.t (.v (.bool true)))),.tmp 22],none⟩]) (.cond (.tmp 23) (.seq (.ops [⟨some 4, .mv,[(.k (.t (.v (.bool false))))],none⟩]) .ret) .skip)) (.seq (.seq (.ops [⟨some 5, .mv,[(.k (.t (.v (.int .i64 0))))],none⟩]) (.block 0 (.loop (.seq (.seq (.ops [⟨some 24, .mv,[.tmp 5],none⟩,⟨some 25, .mv,[.tmp 0],none⟩,⟨some 26, .lenstr,[.tmp 25],none⟩,⟨some 27, .bin false .lss none,[.tmp 24,.tmp 26],none⟩]) (.cond (.tmp 27) .skip (.exit 0))) (.seq (.block 1 (.seq (.ops [⟨some 30, .mv,[.tmp 0],none⟩,⟨some 31, .mv,[.tmp 5],none⟩,⟨some 32, .index,[.tmp 30,.tmp 31],none⟩,⟨some 33, .mv,[.tmp 1],none⟩,⟨some 34, .call 80,[.tmp 32,.tmp 33],none⟩,⟨some 35, .un .not,[.tmp 34],none⟩]) (.cond (.tmp 35) (.seq (.ops [⟨some 4, .mv,[(.k (.t (.v (.bool false))))],none⟩]) .ret) .skip))) (.ops [⟨some 28, .mv,[.tmp 5],none⟩,⟨some 29, .bin false .add none,[.tmp 28, (.k (.t (.v (.int .i64 1))))],none⟩,⟨some 5, .mv,[.tmp 29],none⟩])))))) (.seq (.ops [⟨some 4, .mv,[(.k (.t (.v (.bool true))))],none⟩]) .ret))))
theorem k_r01_named {q : Gl} : FnOK Tryz.prog (G q) 114 2 36 M_r01_named [(.tmp 4)] := ⟨Tryz.f114, Tryz.func114, by kernel_rfl, by kernel_rfl, by kernel_rfl, by kernel_rfl⟩
def M_text_upper : MCode := (.seq (.ops [⟨some 2, .mv,[(.k (.t (.v (.bool false))))],none⟩]) (.seq (.ops [⟨some 3, .mv,[.tmp 0],none⟩,⟨some 4, .bin false .geq none,[.tmp 3, (.k (.t (.v (.int .i32 65))))],none⟩,⟨some 5, .mv,[.tmp 4],none⟩,⟨some 6, .mv,[.tmp 0],some (5, true)⟩,⟨some 7, .bin false .leq none,[.tmp 6, (.k (.t (.v (.int .i32 90))))],some (5, true)⟩,⟨some 8, .pick,[.tmp 5,.tmp 7, (.k (.t (.v (.bool false))))],none⟩,⟨some 2, .mv,[.tmp 8],none⟩]) .ret))
theorem k_text_upper {q : Gl} : FnOK Tryz.prog (G q) 93 1 9 M_text_upper [(.tmp 2)] := ⟨Tryz.f93, Tryz.func93, by kernel_rfl, by kernel_rfl, by kernel_rfl, by kernel_rfl⟩
def M_r01_upper : MCode := (.seq (.ops [⟨some 2, .mv,[(.k (.t (.v (.bool false))))],none⟩]) (.seq (.ops [⟨some 3, .mv,[.tmp 0],none⟩,⟨some 4, .bin false .geq none,[.tmp 3, (.k (.t (.v (.int .u8 65))))],none⟩,⟨some 5, .mv,[.tmp 4],none⟩,⟨some 6, .mv,[.tmp 0],some (5, true)⟩,⟨some 7, .bin false .leq none,[.tmp 6, (.k (.t (.v (.int .u8 90))))],some (5, true)⟩,⟨some 8, .pick,[.tmp 5,.tmp 7, (.k (.t (.v (.bool false))))],none⟩,⟨some 2, .mv,[.tmp 8],none⟩]) .ret))
theorem k_r01_upper {q : Gl} : FnOK Tryz.prog (G q) 49 1 9 M_r01_upper [(.tmp 2)] := ⟨Tryz.f49, Tryz.func49, by kernel_rfl, by kernel_rfl, by kernel_rfl, by kernel_rfl⟩
def M_r01_digit : MCode := (.seq (.ops [⟨some 2, .mv,[(.k (.t (.v (.bool false))))],none⟩]) (.seq (.ops [⟨some 3, .mv,[.tmp 0],none⟩,⟨some 4, .bin false .geq none,[.tmp 3, (.k (.t (.v (.int .u8 48))))],none⟩,⟨some 5, .mv,[.tmp 4],none⟩,⟨some 6, .mv,[.tmp 0],some (5, true)⟩,⟨some 7, .bin false .leq none,[.tmp 6, (.k (.t (.v (.int .u8 57))))],some (5, true)⟩,⟨some 8, .pick,[.tmp 5,.tmp 7, (.k (.t (.v (.bool false))))],none⟩,⟨some 2, .mv,[.tmp 8],none⟩]) .ret))
theorem k_r01_digit {q : Gl} : FnOK Tryz.prog (G q) 81 1 9 M_r01_digit [(.tmp 2)] := ⟨Tryz.f81, Tryz.func81, by kernel_rfl, by kernel_rfl, by kernel_rfl, by kernel_rfl⟩
def M_text_scanner_skip : MCode := (.seq (.ops [⟨some 2, .mv,[(.k (.t (.v (.bool false))))],none⟩]) (.block 0 (.loop (.seq (.seq (.draw [⟨some 4, .mv,[.tmp 0],none⟩,⟨some 5, .chk,[.tmp 4],none⟩,⟨some 6, .faddr 1,[.tmp 5],none⟩,⟨some 7, .load false 1,[.tmp 6],none⟩,⟨some 8, .mv,[.tmp 0],none⟩,⟨some 9, .chk,[.tmp 8],none⟩,⟨some 10, .faddr 0,[.tmp 9],none⟩,⟨some 11, .load false 1,[.tmp 10],none⟩,⟨some 12, .lenstr,[.tmp 11],none⟩,⟨some 13, .bin false .lss none,[.tmp 7,.tmp 12],none⟩]) (.cond (.tmp 13) .skip (.exit 0))) (.seq (.block 1 (.seq (.draw [⟨some 21, .mv,[.tmp 0],none⟩,⟨some 22, .chk,[.tmp 21],none⟩,⟨some 23, .faddr 0,[.tmp 22],none⟩,⟨some 24, .load false 1,[.tmp 23],none⟩,⟨some 25, .mv,[.tmp 0],none⟩,⟨some 26, .chk,[.tmp 25],none⟩,⟨some 27, .faddr 1,[.tmp 26],none⟩,⟨some 28, .load false 1,[.tmp 27],none⟩,⟨some 29, .index,[.tmp 24,.tmp 28],none⟩,⟨some 3, .mv,[.tmp 29],none⟩]) (.block 2 (.seq (.ops [⟨some 31, .mv,[.tmp 3],none⟩,⟨some 32, .bin false .eql none,[.tmp 31, (.k (.t (.v (.int .u8 10))))],none⟩,⟨some 30, .mv,[.tmp 32],none⟩]) (.cond (.tmp 30) (.seq (.ops [⟨some 2, .mv,[(.k (.t (.v (.bool false))))],none⟩]) (.ops [⟨some 33, .mv,[.tmp 0],none⟩,⟨some 34, .chk,[.tmp 33],none⟩,⟨some 35, .faddr 2,[.tmp 34],none⟩,⟨some 36, .load false 1,[.tmp 35],none⟩,⟨some 37, .bin false .add none,[.tmp 36, (.k (.t (.v (.int .i64 1))))],none⟩,⟨some 38, .chk,[.tmp 33],none⟩,⟨some 39, .faddr 2,[.tmp 38],none⟩,⟨none, .store 1,[.tmp 39,.tmp 37],none⟩])) (.seq (.ops [⟨some 41, .mv,[.tmp 2],none⟩,⟨some 40, .mv,[.tmp 41],none⟩]) (.cond (.tmp 40) .skip (.seq (.ops [⟨some 43, .mv,[.tmp 3],none⟩,⟨some 44, .bin false .eql none,[.tmp 43, (.k (.t (.v (.int .u8 37))))],none⟩,⟨some 42, .mv,[.tmp 44],none⟩]) (.cond (.tmp 42) (.ops [⟨some 2, .mv,[(.k (.t (.v (.bool true))))],none⟩]) (.seq (.ops [⟨some 46, .mv,[.tmp 3],none⟩,⟨some 47, .bin false .neq none,[.tmp 46, (.k (.t (.v (.int .u8 32))))],none⟩,⟨some 48, .mv,[.tmp 47],none⟩,⟨some 49, .mv,[.tmp 3],some (48, true)⟩,⟨some 50, .bin false .neq none,[.tmp 49, (.k (.t (.v (.int .u8 9))))],some (48, true)⟩,⟨some 51, .pick,[.tmp 48,.tmp 50, (.k (.t (.v (.bool false))))],none⟩,⟨some 52, .mv,[.tmp 51],none⟩,⟨some 53, .mv,[.tmp 3],some (52, true)⟩,⟨some 54, .bin false .neq none,[.tmp 53, (.k (.t (.v (.int .u8 13))))],some (52, true)⟩,⟨some 55, .pick,[.tmp 52,.tmp 54, (.k (.t (.v (.bool false))))],none⟩,⟨some 45, .mv,[.tmp 55],none⟩]) (.cond (.tmp 45) .ret .skip))))))))))) (.ops [⟨some 14, .mv,[.tmp 0],none⟩,⟨some 15, .chk,[.tmp 14],none⟩,⟨some 16, .faddr 1,[.tmp 15],none⟩,⟨some 17, .load false 1,[.tmp 16],none⟩,⟨some 18, .bin false .add none,[.tmp 17, (.k (.t (.v (.int .i64 1))))],none⟩,⟨some 19, .chk,[.tmp 14],none⟩,⟨some 20, .faddr 1,[.tmp 19],none⟩,⟨none, .store 1,[.tmp 20,.tmp 18],none⟩]))))))
theorem k_text_scanner_skip {q : Gl} : FnOK Tryz.prog (G q) 61 1 56 M_text_scanner_skip [] := ⟨Tryz.f61, Tryz.func61, by kernel_rfl, by kernel_rfl, by kernel_rfl, by kernel_rfl⟩
def M_text_scanner_next : MCode := (.seq (.ops [⟨some 2, (.alloc 44 [(.int .i64 0), (.string ⟨#[]⟩), (.int .i64 0)]),[],none⟩,⟨some 3, .mv,[(.k (.t (.v (.int .i64 0))))],none⟩]) (.seq (.seq (.draw [⟨some 5, .mv,[.tmp 0],none⟩,⟨some 6, .chk,[.tmp 5],none⟩,⟨some 7, .faddr 0,[.tmp 6],none⟩,⟨some 8, .load false 1,[.tmp 7],none⟩,⟨some 9, .mv,[.tmp 0],none⟩,⟨some 10, .chk,[.tmp 9],none⟩,⟨some 11, .faddr 1,[.tmp 10],none⟩,⟨some 12, .load false 1,[.tmp 11],none⟩,⟨some 13, .index,[.tmp 8,.tmp 12],none⟩,⟨some 14, (.conv (some .i32)),[.tmp 13],none⟩,⟨some 4, .mv,[.tmp 14],none⟩]) (.block 0 (.seq (.ops [⟨some 16, .mv,[.tmp 4],none⟩,⟨some 17, .call 91,[.tmp 16],none⟩,⟨some 15, .mv,[.tmp 17],none⟩]) (.cond (.tmp 15) (.seq (.ops [⟨some 18, .mv,[.tmp 0],none⟩,⟨some 19, .hcall 92,[.tmp 18, (.k (.t (.v (.int .i64 1)))), (.k (.t (.v (.func (.func 91) #[] #[]))))],none⟩,⟨some 20, .ext 0,[.tmp 19],none⟩,⟨some 21, .ext 1,[.tmp 19],none⟩,⟨none, .store 3,[.tmp 2,.tmp 20],none⟩,⟨some 3, .mv,[.tmp 21],none⟩]) .ret) (.seq (.ops [⟨some 23, .mv,[.tmp 4],none⟩,⟨some 24, .call 93,[.tmp 23],none⟩,⟨some 22, .mv,[.tmp 24],none⟩]) (.cond (.tmp 22) (.seq (.ops [⟨some 25, .mv,[.tmp 0],none⟩,⟨some 26, .hcall 92,[.tmp 25, (.k (.t (.v (.int .i64 2)))), (.k (.t (.v (.func (.func 93) #[] #[]))))],none⟩,⟨some 27, .ext 0,[.tmp 26],none⟩,⟨some 28, .ext 1,[.tmp 26],none⟩,⟨none, .store 3,[.tmp 2,.tmp 27],none⟩,⟨some 3, .mv,[.tmp 28],none⟩]) .ret) (.seq (.ops [⟨some 30, .mv,[.tmp 4],none⟩,⟨some 31, .call 94,[.tmp 30],none⟩,⟨some 32, .mv,[.tmp 31],none⟩,⟨some 33, .mv,[.tmp 4],some (32, false)⟩,⟨some 34, .bin false .eql none,[.tmp 33, (.k (.t (.v (.int .i32 45))))],some (32, false)⟩,⟨some 35, .pick,[.tmp 32, (.k (.t (.v (.bool true)))),.tmp 34],none⟩,⟨some 29, .mv,[.tmp 35],none⟩]) (.cond (.tmp 29) (.seq (.ops [⟨some 36, .mv,[.tmp 0],none⟩,⟨some 37, .hcall 95,[.tmp 36],none⟩,⟨some 38, .ext 0,[.tmp 37],none⟩,⟨some 39, .ext 1,[.tmp 37],none⟩,⟨none, .store 3,[.tmp 2,.tmp 38],none⟩,⟨some 3, .mv,[.tmp 39],none⟩]) .ret) (.seq (.ops [⟨some 41, .mv,[.tmp 4],none⟩,⟨some 42, .bin false .eql none,[.tmp 41, (.k (.t (.v (.int .i32 34))))],none⟩,⟨some 40, .mv,[.tmp 42],none⟩]) (.cond (.tmp 40) (.seq (.ops [⟨some 43, .mv,[.tmp 0],none⟩,⟨some 44, .hcall 96,[.tmp 43],none⟩,⟨some 45, .ext 0,[.tmp 44],none⟩,⟨some 46, .ext 1,[.tmp 44],none⟩,⟨none, .store 3,[.tmp 2,.tmp 45],none⟩,⟨some 3, .mv,[.tmp 46],none⟩]) .ret) .skip)))))))))) (.seq (.ops [⟨some 47, .mv,[.tmp 0],none⟩,⟨some 48, .hcall 97,[.tmp 47],none⟩,⟨some 49, .ext 0,[.tmp 48],none⟩,⟨some 50, .ext 1,[.tmp 48],none⟩,⟨none, .store 3,[.tmp 2,.tmp 49],none⟩,⟨some 3, .mv,[.tmp 50],none⟩]) .ret)))
theorem k_text_scanner_next {q : Gl} : FnOK Tryz.prog (G q) 62 1 51 M_text_scanner_next [(.cell 2 true 3), (.tmp 3)] := ⟨Tryz.f62, Tryz.func62, by kernel_rfl, by kernel_rfl, by kernel_rfl, by kernel_rfl⟩
def M_text_digit : MCode := (.seq (.ops [⟨some 2, .mv,[(.k (.t (.v (.bool false))))],none⟩]) (.seq (.ops [⟨some 3, .mv,[.tmp 0],none⟩,⟨some 4, .bin false .geq none,[.tmp 3, (.k (.t (.v (.int .i32 48))))],none⟩,⟨some 5, .mv,[.tmp 4],none⟩,⟨some 6, .mv,[.tmp 0],some (5, true)⟩,⟨some 7, .bin false .leq none,[.tmp 6, (.k (.t (.v (.int .i32 57))))],some (5, true)⟩,⟨some 8, .pick,[.tmp 5,.tmp 7, (.k (.t (.v (.bool false))))],none⟩,⟨some 2, .mv,[.tmp 8],none⟩]) .ret))
theorem k_text_digit {q : Gl} : FnOK Tryz.prog (G q) 94 1 9 M_text_digit [(.tmp 2)] := ⟨Tryz.f94, Tryz.func94, by kernel_rfl, by kernel_rfl, by kernel_rfl, by kernel_rfl⟩
def M_r01_part : MCode := (.seq (.ops [⟨some 4, .mv,[(.k (.t (.v (.bool false))))],none⟩]) (.seq (.ops [⟨some 5, .mv,[.tmp 0],none⟩,⟨some 6, .call 81,[.tmp 5],none⟩,⟨some 7, .mv,[.tmp 6],none⟩,⟨some 8, .mv,[.tmp 0],some (7, false)⟩,⟨some 9, .bin false .eql none,[.tmp 8, (.k (.t (.v (.int .u8 45))))],some (7, false)⟩,⟨some 10, .pick,[.tmp 7, (.k (.t (.v (.bool true)))),.tmp 9],none⟩,⟨some 11, .mv,[.tmp 10],none⟩,⟨some 12, .mv,[.tmp 1],some (11, false)⟩,⟨some 13, .mv,[.tmp 12],some (11, false)⟩,⟨some 14, .mv,[.tmp 0],some (13, true)⟩,⟨some 15, .call 49,[.tmp 14],some (13, true)⟩,⟨some 16, .pick,[.tmp 13,.tmp 15, (.k (.t (.v (.bool false))))],some (11, false)⟩,⟨some 17, .pick,[.tmp 11, (.k (.t (.v (.bool true)))),.tmp 16],none⟩,⟨some 18, .mv,[.tmp 17],none⟩,⟨some 19, .mv,[.tmp 1],some (18, false)⟩,⟨some 20, .un .not,[.tmp 19],some (18, false)⟩,⟨some 21, .mv,[.tmp 20],some (18, false)⟩,⟨some 22, .mv,[.tmp 0],some (21, true)⟩,⟨some 23, .call 48,[.tmp 22],some (21, true)⟩,⟨some 24, .pick,[.tmp 21,.tmp 23, (.k (.t (.v (.bool false))))],some (18, false)⟩,⟨some 25, .pick,[.tmp 18, (.k (.t (.v (.bool true)))),.tmp 24],none⟩,⟨some 4, .mv,[.tmp 25],none⟩]) .ret))
theorem k_r01_part {q : Gl} : FnOK Tryz.prog (G q) 80 2 26 M_r01_part [(.tmp 4)] := ⟨Tryz.f80, Tryz.func80, by kernel_rfl, by kernel_rfl, by kernel_rfl, by kernel_rfl⟩
def M_text_scanner_name : MCode := (.seq (.ops [⟨some 6, (.alloc 44 [(.int .i64 0), (.string ⟨#[]⟩), (.int .i64 0)]),[],none⟩,⟨some 7, .mv,[(.k (.t (.v (.int .i64 0))))],none⟩]) (.seq (.ops [⟨some 9, .mv,[.tmp 0],none⟩,⟨some 10, .mv,[.tmp 2],none⟩,⟨some 11, .hcall 118,[.tmp 9,.tmp 10],none⟩,⟨some 8, .mv,[.tmp 11],none⟩]) (.seq (.seq (.ops [⟨some 12, .mv,[.tmp 8],none⟩,⟨some 13, .lenstr,[.tmp 12],none⟩,⟨some 14, .bin false .gtr none,[.tmp 13, (.k (.t (.v (.int .i64 32))))],none⟩]) (.cond (.tmp 14) (.seq (.ops [⟨some 15, (.build [(0, 1), (1, 1), (2, 1)] [(.int .i64 0), (.string ⟨#[]⟩), (.int .i64 0)] []),[],none⟩,⟨none, .store 3,[.tmp 6,.tmp 15],none⟩,⟨some 7, .mv,[(.k (.t (.v (.int .i64 7))))],none⟩]) .ret) .skip)) (.seq (.ops [⟨some 16, .mv,[.tmp 1],none⟩,⟨some 17, .mv,[.tmp 8],none⟩,⟨some 18, .mv,[.tmp 0],none⟩,⟨some 19, .chk,[.tmp 18],none⟩,⟨some 20, .faddr 2,[.tmp 19],none⟩,⟨some 21, .load false 1,[.tmp 20],none⟩,⟨some 22, (.build [(0, 1), (1, 1), (2, 1)] [(.int .i64 0), (.string ⟨#[]⟩), (.int .i64 0)] [0, 1, 2]),[.tmp 16,.tmp 17,.tmp 21],none⟩,⟨none, .store 3,[.tmp 6,.tmp 22],none⟩,⟨some 7, .mv,[(.k (.t (.v (.int .i64 0))))],none⟩]) .ret))))
theorem k_text_scanner_name {q : Gl} : FnOK Tryz.prog (G q) 92 3 23 M_text_scanner_name [(.cell 6 true 3), (.tmp 7)] := ⟨Tryz.f92, Tryz.func92, by kernel_rfl, by kernel_rfl, by kernel_rfl, by kernel_rfl⟩
def M_text_scanner_number : MCode := (.seq (.ops [⟨some 2, (.alloc 44 [(.int .i64 0), (.string ⟨#[]⟩), (.int .i64 0)]),[],none⟩,⟨some 3, .mv,[(.k (.t (.v (.int .i64 0))))],none⟩]) (.seq (.ops [⟨some 8, .mv,[.tmp 0],none⟩,⟨some 9, .chk,[.tmp 8],none⟩,⟨some 10, .faddr 1,[.tmp 9],none⟩,⟨some 11, .load false 1,[.tmp 10],none⟩,⟨some 4, .mv,[.tmp 11],none⟩]) (.seq (.seq (.draw [⟨some 12, .mv,[.tmp 0],none⟩,⟨some 13, .chk,[.tmp 12],none⟩,⟨some 14, .faddr 0,[.tmp 13],none⟩,⟨some 15, .load false 1,[.tmp 14],none⟩,⟨some 16, .mv,[.tmp 0],none⟩,⟨some 17, .chk,[.tmp 16],none⟩,⟨some 18, .faddr 1,[.tmp 17],none⟩,⟨some 19, .load false 1,[.tmp 18],none⟩,⟨some 20, .index,[.tmp 15,.tmp 19],none⟩,⟨some 21, .bin false .eql none,[.tmp 20, (.k (.t (.v (.int .u8 45))))],none⟩]) (.cond (.tmp 21) (.ops [⟨some 22, .mv,[.tmp 0],none⟩,⟨some 23, .chk,[.tmp 22],none⟩,⟨some 24, .faddr 1,[.tmp 23],none⟩,⟨some 25, .load false 1,[.tmp 24],none⟩,⟨some 26, .bin false .add none,[.tmp 25, (.k (.t (.v (.int .i64 1))))],none⟩,⟨some 27, .chk,[.tmp 22],none⟩,⟨some 28, .faddr 1,[.tmp 27],none⟩,⟨none, .store 1,[.tmp 28,.tmp 26],none⟩]) .skip)) (.seq (.block 0 (.loop (.seq (.seq (.draw [⟨some 29, .mv,[.tmp 0],none⟩,⟨some 30, .chk,[.tmp 29],none⟩,⟨some 31, .faddr 1,[.tmp 30],none⟩,⟨some 32, .load false 1,[.tmp 31],none⟩,⟨some 33, .mv,[.tmp 0],none⟩,⟨some 34, .chk,[.tmp 33],none⟩,⟨some 35, .faddr 0,[.tmp 34],none⟩,⟨some 36, .load false 1,[.tmp 35],none⟩,⟨some 37, .lenstr,[.tmp 36],none⟩,⟨some 38, .bin false .lss none,[.tmp 32,.tmp 37],none⟩,⟨some 39, .mv,[.tmp 38],none⟩,⟨some 40, .mv,[.tmp 0],some (39, true)⟩,⟨some 41, .chk,[.tmp 40],some (39, true)⟩,⟨some 42, .faddr 0,[.tmp 41],some (39, true)⟩,⟨some 43, .load false 1,[.tmp 42],some (39, true)⟩,⟨some 44, .mv,[.tmp 0],some (39, true)⟩,⟨some 45, .chk,[.tmp 44],some (39, true)⟩,⟨some 46, .faddr 1,[.tmp 45],some (39, true)⟩,⟨some 47, .load false 1,[.tmp 46],some (39, true)⟩,⟨some 48, .index,[.tmp 43,.tmp 47],some (39, true)⟩,⟨some 49, (.conv (some .i32)),[.tmp 48],some (39, true)⟩,⟨some 50, .call 94,[.tmp 49],some (39, true)⟩,⟨some 51, .pick,[.tmp 39,.tmp 50, (.k (.t (.v (.bool false))))],none⟩]) (.cond (.tmp 51) .skip (.exit 0))) (.block 1 (.ops [⟨some 52, .mv,[.tmp 0],none⟩,⟨some 53, .chk,[.tmp 52],none⟩,⟨some 54, .faddr 1,[.tmp 53],none⟩,⟨some 55, .load false 1,[.tmp 54],none⟩,⟨some 56, .bin false .add none,[.tmp 55, (.k (.t (.v (.int .i64 1))))],none⟩,⟨some 57, .chk,[.tmp 52],none⟩,⟨some 58, .faddr 1,[.tmp 57],none⟩,⟨none, .store 1,[.tmp 58,.tmp 56],none⟩]))))) (.seq (.draw [⟨some 59, .mv,[.tmp 0],none⟩,⟨some 60, .chk,[.tmp 59],none⟩,⟨some 61, .faddr 0,[.tmp 60],none⟩,⟨some 62, .load false 1,[.tmp 61],none⟩,⟨some 63, .mv,[.tmp 4],none⟩,⟨some 64, .mv,[.tmp 0],none⟩,⟨some 65, .chk,[.tmp 64],none⟩,⟨some 66, .faddr 1,[.tmp 65],none⟩,⟨some 67, .load false 1,[.tmp 66],none⟩,⟨some 68, .slstr true true,[.tmp 62,.tmp 63,.tmp 67],none⟩,⟨some 5, .mv,[.tmp 68],none⟩]) (.seq (.seq (.ops [⟨some 69, .mv,[.tmp 5],none⟩,⟨some 70, .bin false .eql none,[.tmp 69, (.k (.t (.v (.string ⟨#[45]⟩))))],none⟩]) (.cond (.tmp 70) (.seq (.ops [⟨some 71, (.build [(0, 1), (1, 1), (2, 1)] [(.int .i64 0), (.string ⟨#[]⟩), (.int .i64 0)] []),[],none⟩,⟨none, .store 3,[.tmp 2,.tmp 71],none⟩,⟨some 3, .mv,[(.k (.t (.v (.int .i64 8))))],none⟩]) .ret) .skip)) (.seq (.seq (.ops [⟨some 73, .mv,[.tmp 5],none⟩,⟨some 74, .call 119,[.tmp 73],none⟩,⟨some 72, .mv,[.tmp 74],none⟩,⟨some 75, .ext 0,[.tmp 72],none⟩,⟨some 76, .ext 1,[.tmp 72],none⟩,⟨some 6, .mv,[.tmp 75],none⟩,⟨some 7, .mv,[.tmp 76],none⟩]) (.seq (.ops [⟨some 77, .mv,[.tmp 7],none⟩,⟨some 78, .bin false .neq none,[.tmp 77, (.k (.t (.v (.int .i64 0))))],none⟩]) (.cond (.tmp 78) (.seq (.ops [⟨some 79, (.build [(0, 1), (1, 1), (2, 1)] [(.int .i64 0), (.string ⟨#[]⟩), (.int .i64 0)] []),[],none⟩,⟨some 80, .mv,[.tmp 7],none⟩,⟨none, .store 3,[.tmp 2,.tmp 79],none⟩,⟨some 3, .mv,[.tmp 80],none⟩]) .ret) .skip))) (.seq (.ops [⟨some 81, .mv,[.tmp 5],none⟩,⟨some 82, .mv,[.tmp 0],none⟩,⟨some 83, .chk,[.tmp 82],none⟩,⟨some 84, .faddr 2,[.tmp 83],none⟩,⟨some 85, .load false 1,[.tmp 84],none⟩,⟨some 86, (.build [(0, 1), (1, 1), (2, 1)] [(.int .i64 0), (.string ⟨#[]⟩), (.int .i64 0)] [0, 1, 2]),[(.k (.t (.v (.int .i64 4)))),.tmp 81,.tmp 85],none⟩,⟨none, .store 3,[.tmp 2,.tmp 86],none⟩,⟨some 3, .mv,[(.k (.t (.v (.int .i64 0))))],none⟩]) .ret))))))))
theorem k_text_scanner_number {q : Gl} : FnOK Tryz.prog (G q) 95 1 87 M_text_scanner_number [(.cell 2 true 3), (.tmp 3)] := ⟨Tryz.f95, Tryz.func95, by kernel_rfl, by kernel_rfl, by kernel_rfl, by kernel_rfl⟩
def M_text_scanner_quoted : MCode := (.seq (.ops [⟨some 2, (.alloc 44 [(.int .i64 0), (.string ⟨#[]⟩), (.int .i64 0)]),[],none⟩,⟨some 3, .mv,[(.k (.t (.v (.int .i64 0))))],none⟩]) (.seq (.ops [⟨some 5, .mv,[.tmp 0],none⟩,⟨some 6, .chk,[.tmp 5],none⟩,⟨some 7, .faddr 1,[.tmp 6],none⟩,⟨some 8, .load false 1,[.tmp 7],none⟩,⟨some 9, .bin false .add none,[.tmp 8, (.k (.t (.v (.int .i64 1))))],none⟩,⟨some 10, .chk,[.tmp 5],none⟩,⟨some 11, .faddr 1,[.tmp 10],none⟩,⟨none, .store 1,[.tmp 11,.tmp 9],none⟩]) (.seq (.ops [⟨some 12, .mv,[.tmp 0],none⟩,⟨some 13, .chk,[.tmp 12],none⟩,⟨some 14, .faddr 1,[.tmp 13],none⟩,⟨some 15, .load false 1,[.tmp 14],none⟩,⟨some 4, .mv,[.tmp 15],none⟩]) (.seq (.block 0 (.loop (.seq (.seq (.draw [⟨some 16, .mv,[.tmp 0],none⟩,⟨some 17, .chk,[.tmp 16],none⟩,⟨some 18, .faddr 1,[.tmp 17],none⟩,⟨some 19, .load false 1,[.tmp 18],none⟩,⟨some 20, .mv,[.tmp 0],none⟩,⟨some 21, .chk,[.tmp 20],none⟩,⟨some 22, .faddr 0,[.tmp 21],none⟩,⟨some 23, .load false 1,[.tmp 22],none⟩,⟨some 24, .lenstr,[.tmp 23],none⟩,⟨some 25, .bin false .lss none,[.tmp 19,.tmp 24],none⟩]) (.cond (.tmp 25) .skip (.exit 0))) (.seq (.block 1 (.seq (.seq (.draw [⟨some 33, .mv,[.tmp 0],none⟩,⟨some 34, .chk,[.tmp 33],none⟩,⟨some 35, .faddr 0,[.tmp 34],none⟩,⟨some 36, .load false 1,[.tmp 35],none⟩,⟨some 37, .mv,[.tmp 0],none⟩,⟨some 38, .chk,[.tmp 37],none⟩,⟨some 39, .faddr 1,[.tmp 38],none⟩,⟨some 40, .load false 1,[.tmp 39],none⟩,⟨some 41, .index,[.tmp 36,.tmp 40],none⟩,⟨some 42, .bin false .eql none,[.tmp 41, (.k (.t (.v (.int .u8 34))))],none⟩]) (.cond (.tmp 42) (.seq (.ops [⟨some 43, .mv,[.tmp 0],none⟩,⟨some 44, .chk,[.tmp 43],none⟩,⟨some 45, .faddr 1,[.tmp 44],none⟩,⟨some 46, .load false 1,[.tmp 45],none⟩,⟨some 47, .bin false .add none,[.tmp 46, (.k (.t (.v (.int .i64 1))))],none⟩,⟨some 48, .chk,[.tmp 43],none⟩,⟨some 49, .faddr 1,[.tmp 48],none⟩,⟨none, .store 1,[.tmp 49,.tmp 47],none⟩]) (.seq (.draw [⟨some 50, .mv,[.tmp 0],none⟩,⟨some 51, .chk,[.tmp 50],none⟩,⟨some 52, .faddr 0,[.tmp 51],none⟩,⟨some 53, .load false 1,[.tmp 52],none⟩,⟨some 54, .mv,[.tmp 4],none⟩,⟨some 55, .mv,[.tmp 0],none⟩,⟨some 56, .chk,[.tmp 55],none⟩,⟨some 57, .faddr 1,[.tmp 56],none⟩,⟨some 58, .load false 1,[.tmp 57],none⟩,⟨some 59, .bin false .sub none,[.tmp 58, (.k (.t (.v (.int .i64 1))))],none⟩,⟨some 60, .slstr true true,[.tmp 53,.tmp 54,.tmp 59],none⟩,⟨some 61, .mv,[.tmp 0],none⟩,⟨some 62, .chk,[.tmp 61],none⟩,⟨some 63, .faddr 2,[.tmp 62],none⟩,⟨some 64, .load false 1,[.tmp 63],none⟩,⟨some 65, (.build [(0, 1), (1, 1), (2, 1)] [(.int .i64 0), (.string ⟨#[]⟩), (.int .i64 0)] [0, 1, 2]),[(.k (.t (.v (.int .i64 3)))),.tmp 60,.tmp 64],none⟩,⟨none, .store 3,[.tmp 2,.tmp 65],none⟩,⟨some 3, .mv,[(.k (.t (.v (.int .i64 0))))],none⟩]) .ret)) .skip)) (.seq (.draw [⟨some 66, .mv,[.tmp 0],none⟩,⟨some 67, .chk,[.tmp 66],none⟩,⟨some 68, .faddr 0,[.tmp 67],none⟩,⟨some 69, .load false 1,[.tmp 68],none⟩,⟨some 70, .mv,[.tmp 0],none⟩,⟨some 71, .chk,[.tmp 70],none⟩,⟨some 72, .faddr 1,[.tmp 71],none⟩,⟨some 73, .load false 1,[.tmp 72],none⟩,⟨some 74, .index,[.tmp 69,.tmp 73],none⟩,⟨some 75, .bin false .lss none,[.tmp 74, (.k (.t (.v (.int .u8 32))))],none⟩,⟨some 76, .mv,[.tmp 75],none⟩,⟨some 77, .mv,[.tmp 0],some (76, false)⟩,⟨some 78, .chk,[.tmp 77],some (76, false)⟩,⟨some 79, .faddr 0,[.tmp 78],some (76, false)⟩,⟨some 80, .load false 1,[.tmp 79],some (76, false)⟩,⟨some 81, .mv,[.tmp 0],some (76, false)⟩,⟨some 82, .chk,[.tmp 81],some (76, false)⟩,⟨some 83, .faddr 1,[.tmp 82],some (76, false)⟩,⟨some 84, .load false 1,[.tmp 83],some (76, false)⟩,⟨some 85, .index,[.tmp 80,.tmp 84],some (76, false)⟩,⟨some 86, .bin false .gtr none,[.tmp 85, (.k (.t (.v (.int .u8 126))))],some (76, false)⟩,⟨some 87, .pick,[.tmp 76, (.k (.t (.v (.bool true)))),.tmp 86],none⟩]) (.cond (.tmp 87) (.seq (.ops [⟨some 88, (.build [(0, 1), (1, 1), (2, 1)] [(.int .i64 0), (.string ⟨#[]⟩), (.int .i64 0)] []),[],none⟩,⟨none, .store 3,[.tmp 2,.tmp 88],none⟩,⟨some 3, .mv,[(.k (.t (.v (.int .i64 8))))],none⟩]) .ret) .skip)))) (.ops [⟨some 26, .mv,[.tmp 0],none⟩,⟨some 27, .chk,[.tmp 26],none⟩,⟨some 28, .faddr 1,[.tmp 27],none⟩,⟨some 29, .load false 1,[.tmp 28],none⟩,⟨some 30, .bin false .add none,[.tmp 29, (.k (.t (.v (.int .i64 1))))],none⟩,⟨some 31, .chk,[.tmp 26],none⟩,⟨some 32, .faddr 1,[.tmp 31],none⟩,⟨none, .store 1,[.tmp 32,.tmp 30],none⟩]))))) (.seq (.ops [⟨some 89, (.build [(0, 1), (1, 1), (2, 1)] [(.int .i64 0), (.string ⟨#[]⟩), (.int .i64 0)] []),[],none⟩,⟨none, .store 3,[.tmp 2,.tmp 89],none⟩,⟨some 3, .mv,[(.k (.t (.v (.int .i64 9))))],none⟩]) .ret)))))
theorem k_text_scanner_quoted {q : Gl} : FnOK Tryz.prog (G q) 96 1 90 M_text_scanner_quoted [(.cell 2 true 3), (.tmp 3)] := ⟨Tryz.f96, Tryz.func96, by kernel_rfl, by kernel_rfl, by kernel_rfl, by kernel_rfl⟩
def M_text_scanner_symbol : MCode := (.seq (.ops [⟨some 2, (.alloc 44 [(.int .i64 0), (.string ⟨#[]⟩), (.int .i64 0)]),[],none⟩,⟨some 3, .mv,[(.k (.t (.v (.int .i64 0))))],none⟩]) (.seq (.ops [⟨some 4, .mv,[(.k (.t (.v (.int .i64 1))))],none⟩]) (.seq (.seq (.draw [⟨some 5, .mv,[.tmp 0],none⟩,⟨some 6, .chk,[.tmp 5],none⟩,⟨some 7, .faddr 0,[.tmp 6],none⟩,⟨some 8, .load false 1,[.tmp 7],none⟩,⟨some 9, .mv,[.tmp 0],none⟩,⟨some 10, .chk,[.tmp 9],none⟩,⟨some 11, .faddr 1,[.tmp 10],none⟩,⟨some 12, .load false 1,[.tmp 11],none⟩,⟨some 13, .slstr true false,[.tmp 8,.tmp 12],none⟩,⟨some 14, .call 120,[.tmp 13, (.k (.t (.v (.string ⟨#[60, 33]⟩))))],none⟩,⟨some 15, .mv,[.tmp 14],none⟩,⟨some 16, .mv,[.tmp 0],some (15, false)⟩,⟨some 17, .chk,[.tmp 16],some (15, false)⟩,⟨some 18, .faddr 0,[.tmp 17],some (15, false)⟩,⟨some 19, .load false 1,[.tmp 18],some (15, false)⟩,⟨some 20, .mv,[.tmp 0],some (15, false)⟩,⟨some 21, .chk,[.tmp 20],some (15, false)⟩,⟨some 22, .faddr 1,[.tmp 21],some (15, false)⟩,⟨some 23, .load false 1,[.tmp 22],some (15, false)⟩,⟨some 24, .slstr true false,[.tmp 19,.tmp 23],some (15, false)⟩,⟨some 25, .call 120,[.tmp 24, (.k (.t (.v (.string ⟨#[33, 62]⟩))))],some (15, false)⟩,⟨some 26, .pick,[.tmp 15, (.k (.t (.v (.bool true)))),.tmp 25],none⟩]) (.cond (.tmp 26) (.ops [⟨some 4, .mv,[(.k (.t (.v (.int .i64 2))))],none⟩]) (.seq (.draw [⟨some 27, .mv,[.tmp 0],none⟩,⟨some 28, .chk,[.tmp 27],none⟩,⟨some 29, .faddr 0,[.tmp 28],none⟩,⟨some 30, .load false 1,[.tmp 29],none⟩,⟨some 31, .mv,[.tmp 0],none⟩,⟨some 32, .chk,[.tmp 31],none⟩,⟨some 33, .faddr 1,[.tmp 32],none⟩,⟨some 34, .load false 1,[.tmp 33],none⟩,⟨some 35, .index,[.tmp 30,.tmp 34],none⟩,⟨some 36, .call 121,[(.k (.t (.v (.string ⟨#[40, 41, 91, 93, 60, 62, 123, 125, 44, 46, 59, 58, 61, 38, 124, 47, 35, 64]⟩)))),.tmp 35],none⟩,⟨some 37, .bin false .lss none,[.tmp 36, (.k (.t (.v (.int .i64 0))))],none⟩]) (.cond (.tmp 37) (.seq (.ops [⟨some 38, (.build [(0, 1), (1, 1), (2, 1)] [(.int .i64 0), (.string ⟨#[]⟩), (.int .i64 0)] []),[],none⟩,⟨none, .store 3,[.tmp 2,.tmp 38],none⟩,⟨some 3, .mv,[(.k (.t (.v (.int .i64 8))))],none⟩]) .ret) .skip)))) (.seq (.ops [⟨some 39, .mv,[.tmp 0],none⟩,⟨some 40, .chk,[.tmp 39],none⟩,⟨some 41, .faddr 1,[.tmp 40],none⟩,⟨some 42, .load false 1,[.tmp 41],none⟩,⟨some 43, .mv,[.tmp 4],none⟩,⟨some 44, .bin false .add none,[.tmp 42,.tmp 43],none⟩,⟨some 45, .chk,[.tmp 39],none⟩,⟨some 46, .faddr 1,[.tmp 45],none⟩,⟨none, .store 1,[.tmp 46,.tmp 44],none⟩]) (.seq (.draw [⟨some 47, .mv,[.tmp 0],none⟩,⟨some 48, .chk,[.tmp 47],none⟩,⟨some 49, .faddr 0,[.tmp 48],none⟩,⟨some 50, .load false 1,[.tmp 49],none⟩,⟨some 51, .mv,[.tmp 0],none⟩,⟨some 52, .chk,[.tmp 51],none⟩,⟨some 53, .faddr 1,[.tmp 52],none⟩,⟨some 54, .load false 1,[.tmp 53],none⟩,⟨some 55, .mv,[.tmp 4],none⟩,⟨some 56, .bin false .sub none,[.tmp 54,.tmp 55],none⟩,⟨some 57, .mv,[.tmp 0],none⟩,⟨some 58, .chk,[.tmp 57],none⟩,⟨some 59, .faddr 1,[.tmp 58],none⟩,⟨some 60, .load false 1,[.tmp 59],none⟩,⟨some 61, .slstr true true,[.tmp 50,.tmp 56,.tmp 60],none⟩,⟨some 62, .mv,[.tmp 0],none⟩,⟨some 63, .chk,[.tmp 62],none⟩,⟨some 64, .faddr 2,[.tmp 63],none⟩,⟨some 65, .load false 1,[.tmp 64],none⟩,⟨some 66, (.build [(0, 1), (1, 1), (2, 1)] [(.int .i64 0), (.string ⟨#[]⟩), (.int .i64 0)] [0, 1, 2]),[(.k (.t (.v (.int .i64 5)))),.tmp 61,.tmp 65],none⟩,⟨none, .store 3,[.tmp 2,.tmp 66],none⟩,⟨some 3, .mv,[(.k (.t (.v (.int .i64 0))))],none⟩]) .ret)))))
theorem k_text_scanner_symbol {q : Gl} : FnOK Tryz.prog (G q) 97 1 67 M_text_scanner_symbol [(.cell 2 true 3), (.tmp 3)] := ⟨Tryz.f97, Tryz.func97, by kernel_rfl, by kernel_rfl, by kernel_rfl, by kernel_rfl⟩
def M_r01_lower : MCode := (.seq (.ops [⟨some 2, .mv,[(.k (.t (.v (.bool false))))],none⟩]) (.seq (.ops [⟨some 3, .mv,[.tmp 0],none⟩,⟨some 4, .bin false .geq none,[.tmp 3, (.k (.t (.v (.int .u8 97))))],none⟩,⟨some 5, .mv,[.tmp 4],none⟩,⟨some 6, .mv,[.tmp 0],some (5, true)⟩,⟨some 7, .bin false .leq none,[.tmp 6, (.k (.t (.v (.int .u8 122))))],some (5, true)⟩,⟨some 8, .pick,[.tmp 5,.tmp 7, (.k (.t (.v (.bool false))))],none⟩,⟨some 2, .mv,[.tmp 8],none⟩]) .ret))
theorem k_r01_lower {q : Gl} : FnOK Tryz.prog (G q) 48 1 9 M_r01_lower [(.tmp 2)] := ⟨Tryz.f48, Tryz.func48, by kernel_rfl, by kernel_rfl, by kernel_rfl, by kernel_rfl⟩
def M_text_scanner_run : MCode := (.seq (.ops [⟨some 4, .mv,[(.k (.t (.v (.string ⟨#[]⟩))))],none⟩]) (.seq (.ops [⟨some 6, .mv,[.tmp 0],none⟩,⟨some 7, .chk,[.tmp 6],none⟩,⟨some 8, .faddr 1,[.tmp 7],none⟩,⟨some 9, .load false 1,[.tmp 8],none⟩,⟨some 5, .mv,[.tmp 9],none⟩]) (.seq (.block 0 (.loop (.seq (.seq (.draw [⟨some 10, .mv,[.tmp 0],none⟩,⟨some 11, .chk,[.tmp 10],none⟩,⟨some 12, .faddr 1,[.tmp 11],none⟩,⟨some 13, .load false 1,[.tmp 12],none⟩,⟨some 14, .mv,[.tmp 0],none⟩,⟨some 15, .chk,[.tmp 14],none⟩,⟨some 16, .faddr 0,[.tmp 15],none⟩,⟨some 17, .load false 1,[.tmp 16],none⟩,⟨some 18, .lenstr,[.tmp 17],none⟩,⟨some 19, .bin false .lss none,[.tmp 13,.tmp 18],none⟩,⟨some 20, .mv,[.tmp 19],none⟩,⟨some 21, .mv,[.tmp 1],some (20, true)⟩,⟨some 22, .mv,[.tmp 0],some (20, true)⟩,⟨some 23, .chk,[.tmp 22],some (20, true)⟩,⟨some 24, .faddr 0,[.tmp 23],some (20, true)⟩,⟨some 25, .load false 1,[.tmp 24],some (20, true)⟩,⟨some 26, .mv,[.tmp 0],some (20, true)⟩,⟨some 27, .chk,[.tmp 26],some (20, true)⟩,⟨some 28, .faddr 1,[.tmp 27],some (20, true)⟩,⟨some 29, .load false 1,[.tmp 28],some (20, true)⟩,⟨some 30, .index,[.tmp 25,.tmp 29],some (20, true)⟩,⟨some 31, (.conv (some .i32)),[.tmp 30],some (20, true)⟩,⟨some 32, .callv,[.tmp 21,.tmp 31],some (20, true)⟩,⟨some 33, .mv,[.tmp 32],some (20, true)⟩,⟨some 34, .mv,[.tmp 0],some (33, false)⟩,⟨some 35, .chk,[.tmp 34],some (33, false)⟩,⟨some 36, .faddr 0,[.tmp 35],some (33, false)⟩,⟨some 37, .load false 1,[.tmp 36],some (33, false)⟩,⟨some 38, .mv,[.tmp 0],some (33, false)⟩,⟨some 39, .chk,[.tmp 38],some (33, false)⟩,⟨some 40, .faddr 1,[.tmp 39],some (33, false)⟩,⟨some 41, .load false 1,[.tmp 40],some (33, false)⟩,⟨some 42, .index,[.tmp 37,.tmp 41],some (33, false)⟩,⟨some 43, (.conv (some .i32)),[.tmp 42],some (33, false)⟩,⟨some 44, .call 94,[.tmp 43],some (33, false)⟩,⟨some 45, .pick,[.tmp 33, (.k (.t (.v (.bool true)))),.tmp 44],some (20, true)⟩,⟨some 46, .mv,[.tmp 45],some (20, true)⟩,⟨some 47, .mv,[.tmp 0],some (46, false)⟩,⟨some 48, .chk,[.tmp 47],some (46, false)⟩,⟨some 49, .faddr 0,[.tmp 48],some (46, false)⟩,⟨some 50, .load false 1,[.tmp 49],some (46, false)⟩,⟨some 51, .mv,[.tmp 0],some (46, false)⟩,⟨some 52, .chk,[.tmp 51],some (46, false)⟩,⟨some 53, .faddr 1,[.tmp 52],some (46, false)⟩,⟨some 54, .load false 1,[.tmp 53],some (46, false)⟩,⟨some 55, .index,[.tmp 50,.tmp 54],some (46, false)⟩,⟨some 56, .bin false .eql none,[.tmp 55, (.k (.t (.v (.int .u8 45))))],some (46, false)⟩,⟨some 57, .pick,[.tmp 46, (.k (.t (.v (.bool true)))),.tmp 56],some (20, true)⟩,⟨some 58, .pick,[.tmp 20,.tmp 57, (.k (.t (.v (.bool false))))],none⟩]) (.cond (.tmp 58) .skip (.exit 0))) (.block 1 (.ops [⟨some 59, .mv,[.tmp 0],none⟩,⟨some 60, .chk,[.tmp 59],none⟩,⟨some 61, .faddr 1,[.tmp 60],none⟩,⟨some 62, .load false 1,[.tmp 61],none⟩,⟨some 63, .bin false .add none,[.tmp 62, (.k (.t (.v (.int .i64 1))))],none⟩,⟨some 64, .chk,[.tmp 59],none⟩,⟨some 65, .faddr 1,[.tmp 64],none⟩,⟨none, .store 1,[.tmp 65,.tmp 63],none⟩]))))) (.seq (.draw [⟨some 66, .mv,[.tmp 0],none⟩,⟨some 67, .chk,[.tmp 66],none⟩,⟨some 68, .faddr 0,[.tmp 67],none⟩,⟨some 69, .load false 1,[.tmp 68],none⟩,⟨some 70, .mv,[.tmp 5],none⟩,⟨some 71, .mv,[.tmp 0],none⟩,⟨some 72, .chk,[.tmp 71],none⟩,⟨some 73, .faddr 1,[.tmp 72],none⟩,⟨some 74, .load false 1,[.tmp 73],none⟩,⟨some 75, .slstr true true,[.tmp 69,.tmp 70,.tmp 74],none⟩,⟨some 4, .mv,[.tmp 75],none⟩]) .ret))))
theorem k_text_scanner_run {q : Gl} : FnOK Tryz.prog (G q) 118 2 76 M_text_scanner_run [(.tmp 4)] := ⟨Tryz.f118, Tryz.func118, by kernel_rfl, by kernel_rfl, by kernel_rfl, by kernel_rfl⟩
end Go.Proofs.YtjkkgbdoeaihmaaGreatDoor
namespace Go.Abs
set_option linter.unusedSimpArgs false
set_option linter.unusedVariables false
open Go
section
variable {P : Program} {G : Globs}
mutual
theorem ren_up {L L' : Loc} {w : World} {σ : Nat → Nat} {n : Nat} (hI : L'.I = L.I) (hμ : ∀ b, b < n → L'.μ (σ b) = L.μ b ∧ σ b < L'.nx) : ∀ (p : PV) {u : Value}, under n p = true → RepV P L w p u → RepV P L' w (ren σ p) u
 | .t x, u, _, h => by simp only [ren, RepV, hI] at h ⊢; exact h
 | .row b o m z, u, hu, h => by
  simp only [ren, RepV, under, decide_eq_true_eq] at h hu ⊢
  obtain ⟨h1, h2⟩ := hμ b hu
  rw [h1]
  exact ⟨h2, h.2⟩
 | .ptr b o, u, hu, h => by
  simp only [ren, RepV, under, decide_eq_true_eq] at h hu ⊢
  obtain ⟨h1, h2⟩ := hμ b hu
  rw [h1]
  exact ⟨h2, h.2⟩
 | .ag cs, u, hu, h => by
  simp only [ren, RepV, under] at h hu ⊢
  obtain ⟨us, e, h1, hl⟩ := h
  exact ⟨us, e, h1, renL_up hI hμ cs hu hl⟩
 | .tu cs, u, hu, h => by
  simp only [ren, RepV, under] at h hu ⊢
  obtain ⟨us, e, hl⟩ := h
  exact ⟨us, e, renL_up hI hμ cs hu hl⟩
 | .fn f a c, u, hu, h => by
  simp only [ren, RepV, under, Bool.and_eq_true] at h hu ⊢
  obtain ⟨us, vs, e, h1, h2⟩ := h
  exact ⟨us, vs, e, renL_up hI hμ a hu.1 h1, renL_up hI hμ c hu.2 h2⟩
 | .ic t x, u, hu, h => by
  simp only [ren, RepV, under] at h hu ⊢
  obtain ⟨y, e, hy⟩ := h
  exact ⟨y, e, ren_up hI hμ x hu hy⟩
 | .mp b, u, hu, h => by
  simp only [ren, RepV, under, decide_eq_true_eq] at h hu ⊢
  obtain ⟨h1, h2⟩ := hμ b hu
  rw [h1]
  exact ⟨h2, h.2⟩
 | .dead, u, _, _ => by simp only [ren, RepV]
theorem renL_up {L L' : Loc} {w : World} {σ : Nat → Nat} {n : Nat} (hI : L'.I = L.I) (hμ : ∀ b, b < n → L'.μ (σ b) = L.μ b ∧ σ b < L'.nx) : ∀ (ps : List PV) {us : List Value}, underL n ps = true → RepVL P L w ps us → RepVL P L' w (renL σ ps) us
 | [], us, _, h => by simpa only [renL, RepVL] using h
 | p :: ps, us, hu, h => by
  simp only [renL, RepVL, underL, Bool.and_eq_true] at h hu ⊢
  obtain ⟨x, xs, e, hx, hxs⟩ := h
  exact ⟨x, xs, e, ren_up hI hμ p hu.1 hx, renL_up hI hμ ps hu.2 hxs⟩
end
theorem renRow_up {L L' : Loc} {w : World} {σ : Nat → Nat} {n g : Nat} (hI : L'.I = L.I) (hμ : ∀ b, b < n → L'.μ (σ b) = L.μ b ∧ σ b < L'.nx) {x : Row} (hu : underRow n x = true) (h : RowRep P L w g x) : RowRep P L' w g (renRow σ x) := by
 cases x with
 | cells ty cs =>
  obtain ⟨arr, ha, hl, hc⟩ := h
  refine ⟨arr, ha, by rw [renL_length]; exact hl, fun j c hj => ?_⟩
  rw [renL_getElem] at hj
  obtain ⟨c0, hc0, rfl⟩ := map_opt hj
  obtain ⟨v, hv, h1, hr⟩ := hc j c0 hc0
  exact ⟨v, hv, h1, ren_up hI hμ c0 (underL_getElem hu hc0) hr⟩
 | iter t pos => exact h
def lifted (σ : Nat → Nat) (nx NX : Nat) (b : Nat) : Nat := if b < nx then σ b else NX + (b - nx)
theorem CallP.lift {f : FuncId} {ps : List PV} {H H' : Heap} {nx nx' : Nat} {r : PV} (h : CallP P G f ps H nx r H' nx') (σ : Nat → Nat) (NX : Nat) (Hb Hb' : Heap)
  (hσ : ∀ b, b < nx → σ b < NX) (hinj : ∀ b c, b < nx → c < nx → σ b = σ c → b = c) (hle : nx ≤ nx')
  (hH : ∀ q ∈ H, look Hb (σ q.1) = some (renRow σ q.2) ∧ q.1 < nx ∧ underRow nx q.2 = true) (hps : underL nx ps = true)
  (hr : under nx' r = true) (hH' : ∀ q ∈ H', q.1 < nx' ∧ underRow nx' q.2 = true)
  (hb' : ∀ b x, look Hb' b = some x → (∃ b0 x0, look H' b0 = some x0 ∧ b = lifted σ nx NX b0 ∧ x = renRow (lifted σ nx NX) x0) ∨ (look Hb b = some x ∧ ∀ b0 x0, look H b0 = some x0 → σ b0 ≠ b)) :
  CallP P G f (renL σ ps) Hb NX (ren (lifted σ nx NX) r) Hb' (NX + (nx' - nx)) := by
 refine ⟨h.1, fun L w us hok hnx hargs => ?_⟩
 let L0 : Loc := ⟨L.I, fun b => L.μ (σ b), nx⟩
 have hok0 : HeapOK P G L0 H w := by
  refine ⟨hok.lt, fun b x hb => ?_, fun b x hb => ?_, fun b b' x x' hb hb' e => ?_, fun b x hb => (hH _ (mem_of_look hb)).2.1, hok.glob⟩
  ·obtain ⟨h1, h2, h3⟩ := hH _ (mem_of_look hb)
   have := hok.rep _ _ h1
   cases x with
   | cells ty cs =>
    obtain ⟨arr, ha, hl, hc⟩ := this
    refine ⟨arr, ha, by rw [renL_length] at hl; exact hl, fun j c hj => ?_⟩
    obtain ⟨v, hv, h1v, hrv⟩ := hc j (ren σ c) (by rw [renL_getElem, hj]; rfl)
    exact ⟨v, hv, h1v, ren_rep c (underL_getElem h3 hj) hrv⟩
   | iter t pos => exact this
  ·exact hok.apart _ _ (hH _ (mem_of_look hb)).1
  ·exact hinj b b' (hH _ (mem_of_look hb)).2.1 (hH _ (mem_of_look hb')).2.1 (hok.inj _ _ _ _ (hH _ (mem_of_look hb)).1 (hH _ (mem_of_look hb')).1 e)
 have mine0 : ∀ g, Mine L0 H g → Mine L Hb g := fun g ⟨b, x, hb, e⟩ => ⟨σ b, _, (hH _ (mem_of_look hb)).1, e⟩
 refine (h.2 L0 w us hok0 rfl (renL_rep ps hps hargs)).mono ?_
 rintro e w' ⟨v, L1, rfl, hv, hok1, hnx1, hm1, hx1⟩
 let L' : Loc := ⟨L1.I, fun b => if b < NX then L.μ b else L1.μ (b - NX + nx), NX + (nx' - nx)⟩
 have hμ : ∀ b, b < nx' → L'.μ (lifted σ nx NX b) = L1.μ b ∧ lifted σ nx NX b < L'.nx := by
  intro b hb
  unfold lifted
  by_cases hlt : b < nx
  ·rw [if_pos hlt]
   have h1 := hσ b hlt
   refine ⟨?_, by show σ b < NX + (nx' - nx); omega⟩
   show (if σ b < NX then L.μ (σ b) else _) = _
   rw [if_pos h1]
   exact (hm1.μ b hlt).symm
  ·rw [if_neg hlt]
   refine ⟨?_, by show NX + (b - nx) < NX + (nx' - nx); omega⟩
   show (if NX + (b - nx) < NX then _ else L1.μ (NX + (b - nx) - NX + nx)) = _
   rw [if_neg (by omega)]
   congr 1
   omega
 have hmono : Mono L w L' w' := by
  refine ⟨hm1.keeps, by show L.nx ≤ NX + (nx' - nx); omega, fun b hb => ?_, hm1.size, hm1.shape⟩
  show (if b < NX then L.μ b else _) = _
  rw [if_pos (by omega)]
 have old : ∀ b x, look Hb b = some x → (∀ b0 x0, look H b0 = some x0 → σ b0 ≠ b) → ¬ Mine L0 H (L.μ b) := by
  intro b x hb hne ⟨b0, x0, h0, e⟩
  exact hne b0 x0 h0 (hok.inj _ _ _ _ (hH _ (mem_of_look h0)).1 hb e)
 have oldμ : ∀ b x, look Hb b = some x → L'.μ b = L.μ b := by
  intro b x hb
  have := hok.nx b x hb
  show (if b < NX then L.μ b else _) = _
  rw [if_pos (by omega)]
 have newμ : ∀ b0 x0, look H' b0 = some x0 → L'.μ (lifted σ nx NX b0) = L1.μ b0 := fun b0 x0 h0 => (hμ b0 (hH' _ (mem_of_look h0)).1).1
 refine ⟨v, L', rfl, ren_up (L := L1) (L' := L') rfl hμ r hr hv, ?_, rfl, hmono, ?_⟩
 ·refine ⟨hok1.lt, fun b x hb => ?_, fun b x hb hI => ?_, fun b b2 x x2 hb hb2 e => ?_, fun b x hb => ?_, hok1.glob⟩
  ·rcases hb' b x hb with ⟨b0, x0, h0, rfl, rfl⟩ | ⟨h0, hne⟩
   ·rw [newμ b0 x0 h0]
    exact renRow_up (L := L1) (L' := L') rfl hμ (hH' _ (mem_of_look h0)).2 (hok1.rep b0 x0 h0)
   ·rw [oldμ b x h0]
    exact (hok.rep b x h0).keep hmono (hx1.same _ (hok.rep b x h0).lt (old b x h0 hne))
  ·rcases hb' b x hb with ⟨b0, x0, h0, rfl, rfl⟩ | ⟨h0, hne⟩
   ·rw [newμ b0 x0 h0] at hI
    exact hok1.apart b0 x0 h0 hI
   ·rw [oldμ b x h0] at hI
    rcases hx1.new _ hI with h2 | h2 | h2
    ·exact hok.apart b x h0 h2
    ·have := (hok.rep b x h0).lt; omega
    ·exact old b x h0 hne h2
  ·rcases hb' b x hb with ⟨b0, x0, h0, rfl, rfl⟩ | ⟨h0, hne⟩ <;> rcases hb' b2 x2 hb2 with ⟨c0, y0, k0, rfl, rfl⟩ | ⟨k0, kne⟩
   ·rw [newμ b0 x0 h0, newμ c0 y0 k0] at e
    rw [hok1.inj b0 c0 x0 y0 h0 k0 e]
   ·rw [newμ b0 x0 h0, oldμ _ _ k0] at e
    rcases hx1.mine (L.μ b2) ⟨b0, x0, h0, e⟩ with h2 | h2
    ·have := (hok.rep b2 x2 k0).lt; omega
    ·exact absurd h2 (old b2 x2 k0 kne)
   ·rw [oldμ _ _ h0, newμ c0 y0 k0] at e
    rcases hx1.mine (L.μ b) ⟨c0, y0, k0, e.symm⟩ with h2 | h2
    ·have := (hok.rep b x h0).lt; omega
    ·exact absurd h2 (old b x h0 hne)
   ·rw [oldμ _ _ h0, oldμ _ _ k0] at e
    exact hok.inj b b2 x x2 h0 k0 e
  ·rcases hb' b x hb with ⟨b0, x0, h0, rfl, rfl⟩ | ⟨h0, hne⟩
   ·exact (hμ b0 (hH' _ (mem_of_look h0)).1).2
   ·have := hok.nx b x h0
    show b < NX + (nx' - nx)
    omega
 ·refine ⟨hx1.size, fun g hg hm => hx1.same g hg (fun h2 => hm (mine0 g h2)), hx1.more, fun g hg => ?_, fun g ⟨b, x, hb, e⟩ => ?_, hx1.shape, hx1.outer⟩
  ·rcases hx1.new g hg with h2 | h2 | h2
   ·exact .inl h2
   ·exact .inr (.inl h2)
   ·exact .inr (.inr (mine0 g h2))
  ·rcases hb' b x hb with ⟨b0, x0, h0, rfl, rfl⟩ | ⟨h0, hne⟩
   ·rw [newμ b0 x0 h0] at e
    rcases hx1.mine g ⟨b0, x0, h0, e⟩ with h2 | h2
    ·exact .inl h2
    ·exact .inr (mine0 g h2)
   ·rw [oldμ _ _ h0] at e
    exact .inr ⟨b, x, h0, e⟩
theorem CallP.lift1 {f : FuncId} {ty : TypeId} {cs cs' : List T} {args : List T} {r : T} (h : CallP P G f (.ptr 0 0 :: args.map .t) [(0, .cells ty (cs.map .t))] 1 (.t r) [(0, .cells ty (cs'.map .t))] 1)
  {b NX : Nat} {Hb : Heap} (hb : look Hb b = some (.cells ty (cs.map .t))) (hlt : b < NX) :
  CallP P G f (.ptr b 0 :: args.map .t) Hb NX (.t r) (upd Hb b (.cells ty (cs'.map .t))) NX := by
 have rt : ∀ (σ : Nat → Nat) (l : List T), renL σ (l.map .t) = l.map .t := by
  intro σ l
  induction l with
  | nil => rfl
  | cons x l ih => simp only [List.map_cons, renL, ren, ih]
 have ut : ∀ (n : Nat) (l : List T), underL n (l.map .t) = true := by
  intro n l
  induction l with
  | nil => rfl
  | cons x l ih => simp only [List.map_cons, underL, under, ih, Bool.and_self]
 have := h.lift (fun _ => b) NX Hb (upd Hb b (.cells ty (cs'.map .t))) (fun _ _ => hlt) (fun x y hx hy _ => by omega) (Nat.le_refl _) (fun q hq => by
  simp only [List.mem_singleton] at hq
  subst hq
  simp only [renRow, rt, underRow, ut]
  exact ⟨hb, by omega, trivial⟩) (by simp only [underL, under, ut]; rfl) rfl (fun q hq => by
  simp only [List.mem_singleton] at hq
  subst hq
  exact ⟨by omega, ut _ _⟩) (fun c x hc => by
  rw [look_upd] at hc
  split at hc
  ·rename_i e
   subst e
   left
   refine ⟨0, _, rfl, by simp [lifted], ?_⟩
   rw [hb] at hc
   simp only [Option.map_some, Option.some.injEq] at hc
   simp only [renRow, rt]
   exact hc.symm
  ·rename_i e
   right
   refine ⟨hc, fun b0 x0 _ e2 => e e2.symm⟩)
 simp only [renL, ren, rt, Nat.sub_self, Nat.add_zero] at this
 exact this
end
end Go.Abs
