/-
  The chapters' examples hold: 'exampleHolds' returns true, reckoned by the kernel over the compact code.
  The hierarchy of the examples and the prelude, reckoned by the kernel.
-/
import Derived.Test.YtbiadmfmjnoecaaU1
import Derived.Test.YtbiadmfmjnoecaaM2
import Derived.Test.YtbiadmfmjnoecaaM3
import Derived.Test.YtbiadmfmjnoecaaA20
import Derived.Test.YtbiadmfmjnoecaaA23
namespace Go.Proofs.Ytbiadmfmjnoecaa
set_option linter.unusedSimpArgs false
set_option linter.unusedVariables false
open Go Go.Abs
def tabX : List (Nat × FnM) := [(128, ⟨1, 50, M_r02_Of, [(.tmp 2), (.tmp 3)]⟩), (118, ⟨2, 26, M_r02_Same, [(.tmp 4)]⟩), (20, ⟨2, 26, M_r02_SameInts, [(.tmp 4)]⟩), (141, ⟨1, 20, M_r02_List, [(.tmp 2)]⟩), (89, ⟨2, 26, M_r02_And, [(.tmp 4)]⟩), (70, ⟨2, 31, M_bits_Or, [(.tmp 4)]⟩), (88, ⟨2, 28, M_r02_Or, [(.tmp 4)]⟩), (111, ⟨2, 26, M_r02_Minus, [(.tmp 4)]⟩), (131, ⟨2, 25, M_r02_Has, [(.tmp 4)]⟩), (71, ⟨2, 21, M_bits_Subset, [(.tmp 4)]⟩), (81, ⟨2, 10, M_r02_Subset, [(.tmp 4)]⟩), (130, ⟨2, 13, M_r02_Equal, [(.tmp 4)]⟩), (72, ⟨1, 18, M_bits_Count, [(.tmp 2)]⟩), (133, ⟨1, 6, M_r02_Count, [(.tmp 2)]⟩), (95, ⟨1, 21, M_bits_normal, [(.tmp 2)]⟩), (117, ⟨1, 23, M_r02_Normal, [(.tmp 2)]⟩), (116, ⟨2, 13, M_r02_word, [(.tmp 4)]⟩), (94, ⟨2, 13, M_bits_word, [(.tmp 4)]⟩), (96, ⟨1, 35, M_bits_OnesCount64, [(.tmp 2)]⟩), (45, ⟨1, 63, M_r06_Compile, [(.cell 2 true 2), (.tmp 3)]⟩), (46, ⟨0, 21, M_r06_Prelude, [(.tmp 0)]⟩), (55, ⟨3, 20, M_r06_Subsumes, [(.tmp 6)]⟩), (66, ⟨3, 60, M_r06_Join, [(.tmp 6)]⟩), (75, ⟨1, 63, M_r05_Values, [(.tmp 2), (.tmp 3)]⟩), (76, ⟨1, 92, M_r04_Codes, [(.tmp 2), (.tmp 3)]⟩), (77, ⟨2, 62, M_r04_Supers, [(.tmp 4)]⟩), (78, ⟨1, 51, M_r05_Features, [(.tmp 2), (.tmp 3)]⟩), (79, ⟨3, 39, M_r06_decl, [(.cell 6 true 3)]⟩), (90, ⟨2, 23, M_r06_find, [(.tmp 4), (.tmp 5)]⟩), (97, ⟨1, 78, M_r05_Check, [(.tmp 2)]⟩), (98, ⟨1, 34, M_r05_feats, [(.tmp 2)]⟩), (99, ⟨4, 60, M_r05_inherited, [(.tmp 8), (.tmp 9)]⟩), (100, ⟨2, 23, M_r04_Find, [(.tmp 4)]⟩), (101, ⟨1, 46, M_r03_Check, [(.tmp 2)]⟩), (102, ⟨1, 19, M_r03_Names, [(.tmp 2)]⟩), (103, ⟨3, 37, M_r04_code, [(.tmp 6)]⟩), (104, ⟨1, 54, M_r04_family, [(.tmp 2)]⟩), (105, ⟨4, 59, M_r04_name, [(.tmp 8)]⟩), (106, ⟨2, 28, M_r04_before, [(.tmp 4)]⟩), (107, ⟨3, 18, M_r04_Subsumes, [(.tmp 6)]⟩), (108, ⟨2, 43, M_r05_intro, [(.tmp 4), (.tmp 5)]⟩), (109, ⟨2, 20, M_r05_number, [(.tmp 4)]⟩), (119, ⟨1, 58, M_r05_declarations, [(.tmp 2)]⟩), (120, ⟨2, 48, M_r03_Put, [(.tmp 4)]⟩), (121, ⟨2, 28, M_r05_value, [(.tmp 4), (.tmp 5)]⟩), (122, ⟨1, 29, M_r03_sizes, [(.tmp 2)]⟩), (123, ⟨1, 26, M_r03_names, [(.tmp 2)]⟩), (124, ⟨1, 38, M_r03_supers, [(.tmp 2)]⟩), (125, ⟨1, 52, M_r03_placed, [(.tmp 2)]⟩), (126, ⟨2, 69, M_r03_Below, [(.tmp 4)]⟩), (127, ⟨2, 18, M_r03_Among, [(.tmp 4)]⟩), (129, ⟨2, 18, M_r04_in, [(.tmp 4)]⟩), (132, ⟨2, 56, M_r03_Maximal, [(.tmp 4)]⟩), (135, ⟨1, 5, M_r01_Feature, [(.tmp 2)]⟩), (136, ⟨1, 5, M_r01_Name, [(.tmp 2)]⟩), (137, ⟨2, 20, M_r03_find, [(.tmp 4)]⟩), (138, ⟨2, 21, M_r03_ready, [(.tmp 4)]⟩), (139, ⟨2, 27, M_r03_declared, [(.tmp 4)]⟩), (140, ⟨2, 66, M_r03_Above, [(.tmp 4)]⟩), (142, ⟨2, 36, M_r01_named, [(.tmp 4)]⟩), (143, ⟨1, 9, M_r01_digit, [(.tmp 2)]⟩), (144, ⟨2, 26, M_r01_part, [(.tmp 4)]⟩), (145, ⟨1, 9, M_r01_upper, [(.tmp 2)]⟩), (146, ⟨1, 9, M_r01_lower, [(.tmp 2)]⟩), (3, ⟨3, 54, M_w09_SubsumeMaps, [(.tmp 6)]⟩), (4, ⟨3, 57, M_w09_SubsumeCompares, [(.tmp 6)]⟩), (5, ⟨2, 28, M_w09_SubsumeMaximal, [(.tmp 4)]⟩), (6, ⟨2, 98, M_w09_SubsumeCovers, [(.tmp 4)]⟩), (15, ⟨1, 24, M_w09_hierarchy, [(.cell 2 true 2)]⟩), (16, ⟨2, 23, M_w09_fits, [(.tmp 4)]⟩), (17, ⟨0, 101, M_w09_exampleHolds, [(.tmp 0)]⟩), (18, ⟨3, 103, M_subsume_Map, [(.tmp 6), (.tmp 7)]⟩), (19, ⟨3, 123, M_r09_Map, [(.tmp 6), (.tmp 7)]⟩), (21, ⟨3, 17, M_subsume_Subsumes, [(.tmp 6)]⟩), (22, ⟨3, 26, M_subsume_Compare, [(.tmp 6)]⟩), (23, ⟨3, 23, M_r09_Compare, [(.tmp 6)]⟩), (24, ⟨1, 9, M_w09_opposite, [(.tmp 2)]⟩), (25, ⟨2, 9, M_graph_Equal, [(.tmp 4)]⟩), (26, ⟨2, 54, M_subsume_Maximal, [(.tmp 4)]⟩), (27, ⟨2, 58, M_r09_Maximal, [(.tmp 4)]⟩), (33, ⟨2, 9, M_r07_Equal, [(.tmp 4)]⟩), (47, ⟨1, 23, M_r07_Light, [(.tmp 2)]⟩), (48, ⟨2, 57, M_r07_Check, [(.tmp 4)]⟩), (49, ⟨0, 17, M_w09_small, [(.cell 0 true 2)]⟩), (50, ⟨1, 5, M_w09_of, [(.cell 2 true 1)]⟩), (51, ⟨2, 32, M_w09_node, [(.cell 4 true 2)]⟩), (52, ⟨1, 7, M_r07_Atom, [(.cell 2 true 1)]⟩), (53, ⟨3, 20, M_hier_Subsumes, [(.tmp 6)]⟩), (54, ⟨2, 21, M_subsume_target, [(.tmp 4)]⟩), (56, ⟨3, 34, M_r08_Step, [(.tmp 6), (.tmp 7)]⟩), (57, ⟨3, 17, M_r09_Subsumes, [(.tmp 6)]⟩), (58, ⟨2, 21, M_graph_Compare, [(.tmp 4)]⟩), (64, ⟨2, 42, M_r07_Compare, [(.tmp 4)]⟩), (68, ⟨2, 88, M_r07_From, [(.cell 4 true 1)]⟩), (80, ⟨1, 13, M_r07_Canon, [(.cell 2 true 1), (.tmp 3)]⟩), (82, ⟨2, 20, M_cmp_Compare, [(.tmp 4)]⟩), (83, ⟨3, 39, M_slices_CompareFunc, [(.tmp 6)]⟩), (84, ⟨2, 28, M_graph_compareNodes, [(.tmp 4)]⟩), (87, ⟨1, 55, M_r07_numbers, [(.tmp 2)]⟩), (91, ⟨2, 62, M_r07_walk_visit, []⟩), (92, ⟨1, 52, M_r07_sorted, [(.tmp 2)]⟩), (110, ⟨1, 40, M_r07_form, [(.tmp 2)]⟩), (112, ⟨1, 6, M_cmp_isNaN, [(.tmp 2)]⟩), (113, ⟨1, 18, M_cmp_Or, [(.tmp 2)]⟩), (114, ⟨3, 39, M_slices_CompareFunc_2, [(.tmp 6)]⟩), (115, ⟨2, 17, M_graph_compareNodes_1, [(.tmp 4)]⟩), (134, ⟨2, 52, M_r07_arcs, [(.tmp 4)]⟩)]
theorem tabX_ok : TabOK Try.prog G tabX := by
 intro q hq
 simp only [tabX, List.mem_cons, List.not_mem_nil, or_false] at hq
 rcases hq with rfl | rfl | rfl | rfl | rfl | rfl | rfl | rfl | rfl | rfl | rfl | rfl | rfl | rfl | rfl | rfl | rfl | rfl | rfl | rfl | rfl | rfl | rfl | rfl | rfl | rfl | rfl | rfl | rfl | rfl | rfl | rfl | rfl | rfl | rfl | rfl | rfl | rfl | rfl | rfl | rfl | rfl | rfl | rfl | rfl | rfl | rfl | rfl | rfl | rfl | rfl | rfl | rfl | rfl | rfl | rfl | rfl | rfl | rfl | rfl | rfl | rfl | rfl | rfl | rfl | rfl | rfl | rfl | rfl | rfl | rfl | rfl | rfl | rfl | rfl | rfl | rfl | rfl | rfl | rfl | rfl | rfl | rfl | rfl | rfl | rfl | rfl | rfl | rfl | rfl | rfl | rfl | rfl | rfl | rfl | rfl | rfl | rfl | rfl | rfl | rfl | rfl | rfl | rfl | rfl | rfl | rfl
 ·exact k_r02_Of
 ·exact k_r02_Same
 ·exact k_r02_SameInts
 ·exact k_r02_List
 ·exact k_r02_And
 ·exact k_bits_Or
 ·exact k_r02_Or
 ·exact k_r02_Minus
 ·exact k_r02_Has
 ·exact k_bits_Subset
 ·exact k_r02_Subset
 ·exact k_r02_Equal
 ·exact k_bits_Count
 ·exact k_r02_Count
 ·exact k_bits_normal
 ·exact k_r02_Normal
 ·exact k_r02_word
 ·exact k_bits_word
 ·exact k_bits_OnesCount64
 ·exact k_r06_Compile
 ·exact k_r06_Prelude
 ·exact k_r06_Subsumes
 ·exact k_r06_Join
 ·exact k_r05_Values
 ·exact k_r04_Codes
 ·exact k_r04_Supers
 ·exact k_r05_Features
 ·exact k_r06_decl
 ·exact k_r06_find
 ·exact k_r05_Check
 ·exact k_r05_feats
 ·exact k_r05_inherited
 ·exact k_r04_Find
 ·exact k_r03_Check
 ·exact k_r03_Names
 ·exact k_r04_code
 ·exact k_r04_family
 ·exact k_r04_name
 ·exact k_r04_before
 ·exact k_r04_Subsumes
 ·exact k_r05_intro
 ·exact k_r05_number
 ·exact k_r05_declarations
 ·exact k_r03_Put
 ·exact k_r05_value
 ·exact k_r03_sizes
 ·exact k_r03_names
 ·exact k_r03_supers
 ·exact k_r03_placed
 ·exact k_r03_Below
 ·exact k_r03_Among
 ·exact k_r04_in
 ·exact k_r03_Maximal
 ·exact k_r01_Feature
 ·exact k_r01_Name
 ·exact k_r03_find
 ·exact k_r03_ready
 ·exact k_r03_declared
 ·exact k_r03_Above
 ·exact k_r01_named
 ·exact k_r01_digit
 ·exact k_r01_part
 ·exact k_r01_upper
 ·exact k_r01_lower
 ·exact k_w09_SubsumeMaps
 ·exact k_w09_SubsumeCompares
 ·exact k_w09_SubsumeMaximal
 ·exact k_w09_SubsumeCovers
 ·exact k_w09_hierarchy
 ·exact k_w09_fits
 ·exact k_w09_exampleHolds
 ·exact k_subsume_Map
 ·exact k_r09_Map
 ·exact k_subsume_Subsumes
 ·exact k_subsume_Compare
 ·exact k_r09_Compare
 ·exact k_w09_opposite
 ·exact k_graph_Equal
 ·exact k_subsume_Maximal
 ·exact k_r09_Maximal
 ·exact k_r07_Equal
 ·exact k_r07_Light
 ·exact k_r07_Check
 ·exact k_w09_small
 ·exact k_w09_of
 ·exact k_w09_node
 ·exact k_r07_Atom
 ·exact k_hier_Subsumes
 ·exact k_subsume_target
 ·exact k_r08_Step
 ·exact k_r09_Subsumes
 ·exact k_graph_Compare
 ·exact k_r07_Compare
 ·exact k_r07_From
 ·exact k_r07_Canon
 ·exact k_cmp_Compare
 ·exact k_slices_CompareFunc
 ·exact k_graph_compareNodes
 ·exact k_r07_numbers
 ·exact k_r07_walk_visit
 ·exact k_r07_sorted
 ·exact k_r07_form
 ·exact k_cmp_isNaN
 ·exact k_cmp_Or
 ·exact k_slices_CompareFunc_2
 ·exact k_graph_compareNodes_1
 ·exact k_r07_arcs
def x_codes_a : List T := [.sl 3 [.v (.string ⟨#[116, 111, 112]⟩), .v (.slice none 0 0), .sl 2 [.v (.string ⟨#[70]⟩), .v (.string ⟨#[116, 111, 112]⟩), .v (.string ⟨#[71]⟩), .v (.string ⟨#[116, 111, 112]⟩)], .v (.string ⟨#[120]⟩), .sl 1 [.v (.string ⟨#[116, 111, 112]⟩)], .v (.slice none 0 0), .v (.string ⟨#[121]⟩), .sl 1 [.v (.string ⟨#[116, 111, 112]⟩)], .v (.slice none 0 0)]]
def x_codes_r : T := .tu [.sl 3 [.v (.string ⟨#[116, 111, 112]⟩), .sl 1 [.v (.int .u64 7)], .v (.string ⟨#[120]⟩), .sl 1 [.v (.int .u64 2)], .v (.string ⟨#[121]⟩), .sl 1 [.v (.int .u64 4)]], .v (.int .i64 0)]
theorem x_codes : CallT Try.prog G 76 x_codes_a (· = x_codes_r) := (callM'_sound mixed tabX_ok (memo := []) (MemoOK.nil) 400 30).t _ _ _ (by kernel_rfl)
def x_check_a : List T := [.sl 3 [.v (.string ⟨#[116, 111, 112]⟩), .v (.slice none 0 0), .sl 2 [.v (.string ⟨#[70]⟩), .v (.string ⟨#[116, 111, 112]⟩), .v (.string ⟨#[71]⟩), .v (.string ⟨#[116, 111, 112]⟩)], .v (.string ⟨#[120]⟩), .sl 1 [.v (.string ⟨#[116, 111, 112]⟩)], .v (.slice none 0 0), .v (.string ⟨#[121]⟩), .sl 1 [.v (.string ⟨#[116, 111, 112]⟩)], .v (.slice none 0 0)]]
def x_check_r : T := .v (.int .i64 0)
theorem x_check : CallT Try.prog G 97 x_check_a (· = x_check_r) := (callM'_sound mixed tabX_ok (memo := [(76, x_codes_a, x_codes_r)]) (MemoOK.cons x_codes (.nil)) 400 30).t _ _ _ (by kernel_rfl)
def x_vals_a : List T := [.sl 3 [.v (.string ⟨#[116, 111, 112]⟩), .v (.slice none 0 0), .sl 2 [.v (.string ⟨#[70]⟩), .v (.string ⟨#[116, 111, 112]⟩), .v (.string ⟨#[71]⟩), .v (.string ⟨#[116, 111, 112]⟩)], .v (.string ⟨#[120]⟩), .sl 1 [.v (.string ⟨#[116, 111, 112]⟩)], .v (.slice none 0 0), .v (.string ⟨#[121]⟩), .sl 1 [.v (.string ⟨#[116, 111, 112]⟩)], .v (.slice none 0 0)]]
def x_vals_r : T := .tu [.sl 3 [.sl 2 [.v (.int .i64 0), .v (.int .i64 0), .v (.int .i64 1), .v (.int .i64 0)], .sl 2 [.v (.int .i64 0), .v (.int .i64 0), .v (.int .i64 1), .v (.int .i64 0)], .sl 2 [.v (.int .i64 0), .v (.int .i64 0), .v (.int .i64 1), .v (.int .i64 0)]], .v (.int .i64 0)]
theorem x_vals : CallT Try.prog G 75 x_vals_a (· = x_vals_r) := (callM'_sound mixed tabX_ok (memo := [(76, x_codes_a, x_codes_r), (97, x_check_a, x_check_r)]) (MemoOK.cons x_codes (.cons x_check (.nil))) 400 30).t _ _ _ (by kernel_rfl)
def x_feats_a : List T := [.sl 3 [.v (.string ⟨#[116, 111, 112]⟩), .v (.slice none 0 0), .sl 2 [.v (.string ⟨#[70]⟩), .v (.string ⟨#[116, 111, 112]⟩), .v (.string ⟨#[71]⟩), .v (.string ⟨#[116, 111, 112]⟩)], .v (.string ⟨#[120]⟩), .sl 1 [.v (.string ⟨#[116, 111, 112]⟩)], .v (.slice none 0 0), .v (.string ⟨#[121]⟩), .sl 1 [.v (.string ⟨#[116, 111, 112]⟩)], .v (.slice none 0 0)]]
def x_feats_r : T := .tu [.sl 2 [.v (.string ⟨#[70]⟩), .v (.int .i64 0), .v (.string ⟨#[71]⟩), .v (.int .i64 0)], .v (.int .i64 0)]
theorem x_feats : CallT Try.prog G 78 x_feats_a (· = x_feats_r) := (callM'_sound mixed tabX_ok (memo := [(76, x_codes_a, x_codes_r), (97, x_check_a, x_check_r)]) (MemoOK.cons x_codes (.cons x_check (.nil))) 400 30).t _ _ _ (by kernel_rfl)
def x_comp_a : List T := [.sl 3 [.v (.string ⟨#[116, 111, 112]⟩), .v (.slice none 0 0), .sl 2 [.v (.string ⟨#[70]⟩), .v (.string ⟨#[116, 111, 112]⟩), .v (.string ⟨#[71]⟩), .v (.string ⟨#[116, 111, 112]⟩)], .v (.string ⟨#[120]⟩), .sl 1 [.v (.string ⟨#[116, 111, 112]⟩)], .v (.slice none 0 0), .v (.string ⟨#[121]⟩), .sl 1 [.v (.string ⟨#[116, 111, 112]⟩)], .v (.slice none 0 0)]]
def x_comp_r : T := .tu [.ag [.sl 3 [.v (.string ⟨#[116, 111, 112]⟩), .sl 1 [.v (.int .u64 7)], .v (.slice none 0 0), .sl 2 [.v (.int .i64 0), .v (.int .i64 0), .v (.int .i64 1), .v (.int .i64 0)], .v (.string ⟨#[120]⟩), .sl 1 [.v (.int .u64 2)], .sl 1 [.v (.int .i64 0)], .sl 2 [.v (.int .i64 0), .v (.int .i64 0), .v (.int .i64 1), .v (.int .i64 0)], .v (.string ⟨#[121]⟩), .sl 1 [.v (.int .u64 4)], .sl 1 [.v (.int .i64 0)], .sl 2 [.v (.int .i64 0), .v (.int .i64 0), .v (.int .i64 1), .v (.int .i64 0)]], .sl 2 [.v (.string ⟨#[70]⟩), .v (.int .i64 0), .v (.string ⟨#[71]⟩), .v (.int .i64 0)]], .v (.int .i64 0)]
theorem x_comp : CallT Try.prog G 45 x_comp_a (· = x_comp_r) := (callM'_sound mixed tabX_ok (memo := [(75, x_vals_a, x_vals_r), (76, x_codes_a, x_codes_r), (78, x_feats_a, x_feats_r)]) (MemoOK.cons x_vals (.cons x_codes (.cons x_feats (.nil)))) 400 30).t _ _ _ (by kernel_rfl)
def x_small_a : List T := []
def x_small_r : T := .ag [.sl 3 [.v (.string ⟨#[116, 111, 112]⟩), .sl 1 [.v (.int .u64 7)], .v (.slice none 0 0), .sl 2 [.v (.int .i64 0), .v (.int .i64 0), .v (.int .i64 1), .v (.int .i64 0)], .v (.string ⟨#[120]⟩), .sl 1 [.v (.int .u64 2)], .sl 1 [.v (.int .i64 0)], .sl 2 [.v (.int .i64 0), .v (.int .i64 0), .v (.int .i64 1), .v (.int .i64 0)], .v (.string ⟨#[121]⟩), .sl 1 [.v (.int .u64 4)], .sl 1 [.v (.int .i64 0)], .sl 2 [.v (.int .i64 0), .v (.int .i64 0), .v (.int .i64 1), .v (.int .i64 0)]], .sl 2 [.v (.string ⟨#[70]⟩), .v (.int .i64 0), .v (.string ⟨#[71]⟩), .v (.int .i64 0)]]
theorem x_small : CallT Try.prog G 49 x_small_a (· = x_small_r) := (callM'_sound mixed tabX_ok (memo := [(45, x_comp_a, x_comp_r)]) (MemoOK.cons x_comp (.nil)) 400 30).t _ _ _ (by kernel_rfl)
def x_prel_a : List T := []
def x_prel_r : T := .sl 13 [.v (.string ⟨#[116, 111, 112]⟩), .v (.slice none 0 0), .v (.slice none 0 0), .v (.string ⟨#[108, 105, 115, 116]⟩), .sl 1 [.v (.string ⟨#[116, 111, 112]⟩)], .v (.slice none 0 0), .v (.string ⟨#[99, 111, 110, 115]⟩), .sl 1 [.v (.string ⟨#[108, 105, 115, 116]⟩)], .sl 2 [.v (.string ⟨#[70, 73, 82, 83, 84]⟩), .v (.string ⟨#[116, 111, 112]⟩), .v (.string ⟨#[82, 69, 83, 84]⟩), .v (.string ⟨#[108, 105, 115, 116]⟩)], .v (.string ⟨#[110, 117, 108, 108]⟩), .sl 1 [.v (.string ⟨#[108, 105, 115, 116]⟩)], .v (.slice none 0 0), .v (.string ⟨#[100, 108, 105, 115, 116]⟩), .sl 1 [.v (.string ⟨#[116, 111, 112]⟩)], .sl 2 [.v (.string ⟨#[76, 73, 83, 84]⟩), .v (.string ⟨#[108, 105, 115, 116]⟩), .v (.string ⟨#[76, 65, 83, 84]⟩), .v (.string ⟨#[108, 105, 115, 116]⟩)], .v (.string ⟨#[105, 110, 100, 101, 120]⟩), .sl 1 [.v (.string ⟨#[116, 111, 112]⟩)], .v (.slice none 0 0), .v (.string ⟨#[104, 97, 110, 100, 108, 101]⟩), .sl 1 [.v (.string ⟨#[105, 110, 100, 101, 120]⟩)], .v (.slice none 0 0), .v (.string ⟨#[101, 118, 101, 110, 116]⟩), .sl 1 [.v (.string ⟨#[105, 110, 100, 101, 120]⟩)], .v (.slice none 0 0), .v (.string ⟨#[101, 110, 116, 105, 116, 121]⟩), .sl 1 [.v (.string ⟨#[105, 110, 100, 101, 120]⟩)], .v (.slice none 0 0), .v (.string ⟨#[114, 101, 108]⟩), .sl 1 [.v (.string ⟨#[116, 111, 112]⟩)], .sl 1 [.v (.string ⟨#[76, 65, 66, 69, 76]⟩), .v (.string ⟨#[104, 97, 110, 100, 108, 101]⟩)], .v (.string ⟨#[113, 101, 113]⟩), .sl 1 [.v (.string ⟨#[116, 111, 112]⟩)], .sl 2 [.v (.string ⟨#[72, 73, 71, 72]⟩), .v (.string ⟨#[104, 97, 110, 100, 108, 101]⟩), .v (.string ⟨#[76, 79, 87]⟩), .v (.string ⟨#[104, 97, 110, 100, 108, 101]⟩)], .v (.string ⟨#[115, 101, 109]⟩), .sl 1 [.v (.string ⟨#[116, 111, 112]⟩)], .sl 4 [.v (.string ⟨#[84, 79, 80]⟩), .v (.string ⟨#[104, 97, 110, 100, 108, 101]⟩), .v (.string ⟨#[73, 78, 68, 69, 88]⟩), .v (.string ⟨#[105, 110, 100, 101, 120]⟩), .v (.string ⟨#[82, 69, 76, 83]⟩), .v (.string ⟨#[100, 108, 105, 115, 116]⟩), .v (.string ⟨#[67, 79, 78, 83]⟩), .v (.string ⟨#[100, 108, 105, 115, 116]⟩)], .v (.string ⟨#[115, 105, 103, 110]⟩), .sl 1 [.v (.string ⟨#[116, 111, 112]⟩)], .sl 2 [.v (.string ⟨#[83, 69, 77]⟩), .v (.string ⟨#[115, 101, 109]⟩), .v (.string ⟨#[65, 82, 71, 83]⟩), .v (.string ⟨#[108, 105, 115, 116]⟩)]]
theorem x_prel : CallT Try.prog G 46 x_prel_a (· = x_prel_r) := (callM'_sound mixed tabX_ok (memo := []) (MemoOK.nil) 400 30).t _ _ _ (by kernel_rfl)
end Go.Proofs.Ytbiadmfmjnoecaa
