/- Printed by gencf.py (mine): the resolved functions are the program's. -/
import Derived.Test.YtfifhpmcbfeadaaGreatDoorXC1
import Derived.Test.YtfifhpmcbfeadaaGreatDoorProg
import Derived.KernelRfl
namespace Go.X
open Go Go.Proofs
set_option maxRecDepth 100000
theorem S_laws_FnExactTreeText : compF Tryz.prog (Flags.mk [1, 6] [(0, [1]), (1, [1, 3]), (2, [1, 3]), (3, [1, 13]), (4, [2]), (5, [1, 4, 5]), (6, [1, 4, 5, 6]), (7, [1, 4, 5, 6, 7, 8]), (8, [1, 6, 34]), (9, [2]), (10, [39]), (11, [2]), (12, [2])] [] false) f_laws_FnExactTreeText = some c_laws_FnExactTreeText := by kernel_rfl
theorem S_laws_szTree : compF Tryz.prog (Flags.mk [2] [(0, [1, 2]), (1, [1]), (2, [1, 10]), (3, [4]), (4, [4])] [] false) f_laws_szTree = some c_laws_szTree := by kernel_rfl
theorem S_spec_TreeText : compF Tryz.prog (Flags.mk [1, 35] [(0, [1]), (1, [1, 8]), (2, [2, 3]), (3, [1, 4]), (4, [1, 4, 5]), (5, [1, 4, 5, 19]), (6, [1, 4, 5]), (7, [1, 4, 5]), (8, [2, 3])] [(5, [1, 4, 5])] false) f_spec_TreeText = some c_spec_TreeText := by kernel_rfl
theorem S_laws_toTree : compF Tryz.prog (Flags.mk [1, 2, 3] [(0, [1, 2]), (1, [1, 2, 3]), (2, [1, 2, 3]), (3, [2, 3]), (4, [2])] [] false) f_laws_toTree = some c_laws_toTree := by kernel_rfl
theorem S_impl_TreeText : compF Tryz.prog (Flags.mk [] [(0, [1]), (1, [1, 6]), (2, [2, 3]), (3, [2, 3])] [] false) f_impl_TreeText = some c_impl_TreeText := by kernel_rfl
theorem S_laws_eqTree : compF Tryz.prog (Flags.mk [2, 3] [(0, [2, 3]), (1, [2, 3, 10]), (2, [4]), (3, [15]), (4, [4]), (5, [4])] [] false) f_laws_eqTree = some c_laws_eqTree := by kernel_rfl
theorem S_laws_szNodeS : compF Tryz.prog (Flags.mk [] [(0, [0, 1]), (1, [0, 1]), (2, [0, 1, 11]), (3, [4]), (4, [0, 1, 5]), (5, [0, 1, 5, 15]), (6, [0, 1, 5]), (7, [0, 1, 5]), (8, [0, 1, 5, 25]), (9, [4]), (10, [4])] [(5, [0, 1, 5])] false) f_laws_szNodeS = some c_laws_szNodeS := by kernel_rfl
theorem S_spec_TreeOK : compF Tryz.prog (Flags.mk [1] [(0, [1]), (1, [3]), (2, [2])] [] false) f_spec_TreeOK = some c_spec_TreeOK := by kernel_rfl
theorem S_spec_l03Text : compF Tryz.prog (Flags.mk [2, 5, 30] [(0, [1, 2]), (1, [2, 5]), (2, [2, 5, 6]), (3, [2, 5, 6, 7]), (4, [2, 5, 6, 7, 19]), (5, [2, 5, 6, 7]), (6, [2, 5, 6, 7]), (7, [5, 6, 33]), (8, [5, 6, 33, 34]), (9, [4]), (10, [5, 6, 33, 39]), (11, [4]), (12, [5, 6, 33, 44]), (13, [4]), (14, [5, 6, 33, 51]), (15, [4]), (16, [5, 6, 33, 53]), (17, [4]), (18, [5, 6, 33, 57]), (19, [4]), (20, [5, 6, 33, 67]), (21, [4]), (22, [5, 6, 33, 83]), (23, [4]), (24, [5, 6, 33, 95]), (25, [4]), (26, [5, 6, 33, 107]), (27, [4]), (28, [5, 6, 33, 116]), (29, [4]), (30, [5, 6, 33, 127]), (31, [4]), (32, [5, 6, 33, 137]), (33, [6, 8]), (34, [6, 8, 150]), (35, [8]), (36, [4]), (37, [5, 6, 33, 158]), (38, [4]), (39, [5, 6, 33, 169]), (40, [4]), (41, [5, 6, 33, 176]), (42, [4]), (43, [5, 6, 33, 183]), (44, [4]), (45, [5, 6, 33, 198]), (46, [4]), (47, [5, 6, 204]), (48, [4]), (49, [6, 221]), (50, [4]), (51, [4])] [(4, [2, 5, 6, 7])] false) f_spec_l03Text = some c_spec_l03Text := by kernel_rfl
theorem S_spec_l00Join : compF Tryz.prog (Flags.mk [] [(0, [0, 1]), (1, [0, 1, 5]), (2, [0, 1, 5, 6]), (3, [0, 1, 5, 6, 10]), (4, [0, 1, 5, 6]), (5, [0, 1, 5, 6, 14]), (6, [0, 1, 5, 6]), (7, [0, 1, 5, 6]), (8, [4])] [(3, [0, 1, 5, 6])] false) f_spec_l00Join = some c_spec_l00Join := by kernel_rfl
theorem S_laws_toNodeS : compF Tryz.prog (Flags.mk [] [(0, [0]), (1, [0, 3]), (2, [0, 3, 4]), (3, [0, 3, 4, 11]), (4, [0, 3, 4]), (5, [0, 3, 4]), (6, [2])] [(3, [0, 3, 4])] false) f_laws_toNodeS = some c_laws_toNodeS := by kernel_rfl
theorem S_impl_TreeOK : compF Tryz.prog (Flags.mk [1] [(0, [1]), (1, [1, 27]), (2, [2]), (3, [1, 3]), (4, [2])] [] false) f_impl_TreeOK = some c_impl_TreeOK := by kernel_rfl
theorem S_impl_Tree_texts : compF Tryz.prog (Flags.mk [21] [(0, [0, 1, 2]), (1, [0, 1, 2, 7]), (2, [0, 2, 7, 11, 12, 13]), (3, [0, 2, 7, 11, 12, 13, 14]), (4, [0, 2, 7, 9, 11, 12, 13]), (5, [0, 2, 7, 11, 12, 13]), (6, [0, 2, 7, 11, 12, 13]), (7, [6])] [(3, [0, 2, 7, 11, 12, 13])] false) f_impl_Tree_texts = some c_impl_Tree_texts := by kernel_rfl
theorem S_laws_eqNodeS : compF Tryz.prog (Flags.mk [] [(0, [0, 1]), (1, [0, 1, 10]), (2, [4]), (3, [0, 1, 5]), (4, [0, 1, 5, 14]), (5, [0, 1, 5]), (6, [0, 1, 5, 26]), (7, [4]), (8, [4])] [(4, [0, 1, 5])] false) f_laws_eqNodeS = some c_laws_eqNodeS := by kernel_rfl
theorem S_laws_szNode : compF Tryz.prog (Flags.mk [2] [(0, [1, 2]), (1, [1, 2]), (2, [1, 2, 11]), (3, [4]), (4, [1, 2]), (5, [1, 2, 17]), (6, [4]), (7, [1]), (8, [1, 23]), (9, [4]), (10, [4])] [] false) f_laws_szNode = some c_laws_szNode := by kernel_rfl
theorem S_spec_l03Tree : compF Tryz.prog (Flags.mk [1] [(0, [1]), (1, [1, 9]), (2, [2, 3]), (3, [1, 4]), (4, [4]), (5, [4, 5]), (6, [4, 5, 27]), (7, [4, 5]), (8, [4, 5]), (9, [2, 3])] [(6, [4, 5])] false) f_spec_l03Tree = some c_spec_l03Tree := by kernel_rfl
theorem S_spec_l00Digits : compF Tryz.prog (Flags.mk [] [(0, [0]), (1, [0, 4]), (2, [2]), (3, [0, 6]), (4, [2]), (5, [0, 12]), (6, [2]), (7, [2])] [] true) f_spec_l00Digits = some c_spec_l00Digits := by kernel_rfl
theorem S_spec_l02Quote : compF Tryz.prog (Flags.mk [23, 29, 32] [(0, [0]), (1, [0, 3]), (2, [0, 3, 4]), (3, [0, 3, 4, 9]), (4, [0, 3, 4]), (5, [0, 3, 4, 21]), (6, [0, 3, 4]), (7, [0, 3, 4]), (8, [2])] [(3, [0, 3, 4])] false) f_spec_l02Quote = some c_spec_l02Quote := by kernel_rfl
theorem S_spec_l01ValueText : compF Tryz.prog (Flags.mk [1] [(0, [1]), (1, [1, 4]), (2, [1, 4, 5]), (3, [2]), (4, [1, 4, 10]), (5, [14]), (6, [2]), (7, [2]), (8, [1, 15]), (9, [2]), (10, [2])] [] false) f_spec_l01ValueText = some c_spec_l01ValueText := by kernel_rfl
theorem S_spec_l01Bool : compF Tryz.prog (Flags.mk [2] [(0, [0, 2]), (1, [2])] [] false) f_spec_l01Bool = some c_spec_l01Bool := by kernel_rfl
theorem S_laws_toNode : compF Tryz.prog (Flags.mk [1, 2, 3] [(0, [1, 2]), (1, [1, 2, 3]), (2, [1, 2, 3]), (3, [1, 2, 3]), (4, [1, 2, 3]), (5, [1, 2, 3]), (6, [2, 3]), (7, [2])] [] false) f_laws_toNode = some c_laws_toNode := by kernel_rfl
theorem S_impl_within : compF Tryz.prog (Flags.mk [] [(0, [0, 1, 2]), (1, [6])] [] false) f_impl_within = some c_impl_within := by kernel_rfl
theorem S_impl_checker_walk : compF Tryz.prog (Flags.mk [7] [(0, [0, 1, 2]), (1, [0, 1, 2, 7]), (2, [0, 1, 2, 7, 34]), (3, [6]), (4, [0, 1, 2, 7]), (5, [0, 1, 2, 7, 8]), (6, [0, 1, 2, 7, 8, 48]), (7, [6]), (8, [0, 1, 2, 8, 50, 51, 52]), (9, [0, 1, 2, 8, 50, 51, 52, 53]), (10, [0, 1, 2, 8, 9, 10, 50, 51, 52]), (11, [0, 1, 2, 8, 50, 51, 52, 90]), (12, [6]), (13, [0, 1, 2, 8, 50, 51, 52]), (14, [6])] [(9, [0, 1, 2, 8, 50, 51, 52])] false) f_impl_checker_walk = some c_impl_checker_walk := by kernel_rfl
theorem S_slices_Contains_bool : compF Tryz.prog (Flags.mk [] [(0, [0, 1]), (1, [4])] [] false) f_slices_Contains_bool = some c_slices_Contains_bool := by kernel_rfl
theorem S_impl_Tree_text : compF Tryz.prog (Flags.mk [] [(0, [1, 2]), (1, [2, 5]), (2, [2, 5, 17]), (3, [4]), (4, [2, 5, 6]), (5, [2, 5, 6, 23]), (6, [2, 5, 6, 23, 24]), (7, [4]), (8, [2, 5, 6, 23, 34]), (9, [4]), (10, [2, 5, 6, 23, 43]), (11, [4]), (12, [2, 5, 6, 23, 49]), (13, [4]), (14, [2, 5, 6, 23, 55]), (15, [4]), (16, [2, 5, 6, 23, 60]), (17, [4]), (18, [2, 5, 6, 23, 69]), (19, [4]), (20, [2, 5, 6, 23, 82]), (21, [4]), (22, [2, 5, 6, 96]), (23, [5, 6, 7]), (24, [6, 7, 108]), (25, [7]), (26, [4]), (27, [2, 5, 118]), (28, [4]), (29, [4])] [] false) f_impl_Tree_text = some c_impl_Tree_text := by kernel_rfl
theorem S_laws_eqNode : compF Tryz.prog (Flags.mk [2, 3] [(0, [2, 3]), (1, [2, 3, 9]), (2, [4]), (3, [2, 3, 14]), (4, [4]), (5, [2, 3, 19]), (6, [4]), (7, [2, 3, 25]), (8, [4]), (9, [31]), (10, [4]), (11, [4])] [] false) f_laws_eqNode = some c_laws_eqNode := by kernel_rfl
theorem S_laws_szStringS : compF Tryz.prog (Flags.mk [] [(0, [0, 1]), (1, [0, 1]), (2, [0, 1, 11]), (3, [4]), (4, [0, 1, 5]), (5, [0, 1, 5, 15]), (6, [0, 1, 5]), (7, [0, 1, 5]), (8, [0, 1, 5, 26]), (9, [4]), (10, [4])] [(5, [0, 1, 5])] false) f_laws_szStringS = some c_laws_szStringS := by kernel_rfl
theorem S_laws_szIntS : compF Tryz.prog (Flags.mk [] [(0, [0, 1]), (1, [1]), (2, [1, 10]), (3, [4]), (4, [4])] [] false) f_laws_szIntS = some c_laws_szIntS := by kernel_rfl
theorem S_spec_l03Look_walk : compF Tryz.prog (Flags.mk [8] [(0, [0, 1, 2, 3, 42]), (1, []), (2, [0, 1, 2, 3]), (3, [0, 1, 2, 3]), (4, [0, 1, 2, 3, 8]), (5, [0, 1, 3, 8, 9]), (6, [0, 1, 3, 8, 9, 10]), (7, [0, 1, 3, 8, 10, 124]), (8, []), (9, [0, 1, 3, 8, 10, 11]), (10, [0, 1, 3, 8, 10, 11, 131]), (11, [0, 1, 3, 8, 10, 11]), (12, [0, 1, 3, 8, 10, 11, 12]), (13, [0, 1, 3, 8, 10, 11, 12, 148]), (14, [0, 1, 3, 8, 10, 11, 12]), (15, [0, 1, 3, 8, 10, 11])] [(10, [0, 1, 3, 8, 10, 11])] false) f_spec_l03Look_walk = some c_spec_l03Look_walk := by kernel_rfl
theorem S_spec_l01Bit : compF Tryz.prog (Flags.mk [] [(0, [0]), (1, [3]), (2, [2]), (3, [2])] [] false) f_spec_l01Bit = some c_spec_l01Bit := by kernel_rfl
theorem S_laws_toStringS : compF Tryz.prog (Flags.mk [] [(0, [0]), (1, [0, 3]), (2, [0, 3, 4]), (3, [0, 3, 4, 11]), (4, [0, 3, 4]), (5, [0, 3, 4]), (6, [2])] [(3, [0, 3, 4])] false) f_laws_toStringS = some c_laws_toStringS := by kernel_rfl
theorem S_laws_toIntS : compF Tryz.prog (Flags.mk [] [(0, [0]), (1, [0, 3]), (2, [0, 3, 4]), (3, [0, 3, 4, 11]), (4, [0, 3, 4]), (5, [0, 3, 4]), (6, [2])] [(3, [0, 3, 4])] false) f_laws_toIntS = some c_laws_toIntS := by kernel_rfl
theorem S_impl_Node_fieldsOK : compF Tryz.prog (Flags.mk [1, 3] [(0, [1]), (1, [1, 3]), (2, [1, 26]), (3, [2]), (4, [1, 28]), (5, [1, 28, 29]), (6, [2]), (7, [1, 28, 34]), (8, [2]), (9, [1, 28, 39]), (10, [2]), (11, [1, 28, 44]), (12, [2]), (13, [1, 28, 49]), (14, [2]), (15, [1, 28, 54]), (16, [1, 28, 54]), (17, [1, 28, 54]), (18, [1, 28, 54]), (19, [1, 28, 54]), (20, [2]), (21, [1, 63]), (22, [2]), (23, [2])] [] false) f_impl_Node_fieldsOK = some c_impl_Node_fieldsOK := by kernel_rfl
theorem S_impl_kidKinds : compF Tryz.prog (Flags.mk [1] [(0, [1]), (1, [1, 4]), (2, [1, 4, 5]), (3, [1, 4, 5]), (4, [1, 4, 5]), (5, [1, 4, 5]), (6, [1, 4, 5]), (7, [1, 4, 5]), (8, [2]), (9, [1, 4, 12]), (10, [1, 4, 12]), (11, [1, 4, 12]), (12, [2]), (13, [1, 4, 16]), (14, [2]), (15, [1, 4, 22]), (16, [2]), (17, [1, 4, 30]), (18, [2]), (19, [1, 4, 32]), (20, [2]), (21, [1, 4, 34]), (22, [2]), (23, [40]), (24, [2]), (25, [2])] [] false) f_impl_kidKinds = some c_impl_kidKinds := by kernel_rfl
theorem S_impl_checker_fits : compF Tryz.prog (Flags.mk [] [(0, [0, 1, 2, 3]), (1, [2, 3, 9]), (2, [3, 9, 19]), (3, [3, 9, 19, 20]), (4, [8]), (5, [3, 9, 24]), (6, [8]), (7, [8])] [] false) f_impl_checker_fits = some c_impl_checker_fits := by kernel_rfl
theorem S_slices_Index_bool : compF Tryz.prog (Flags.mk [] [(0, [0, 1]), (1, [0, 1, 7, 8]), (2, [0, 1, 7, 8, 9]), (3, [0, 1, 5, 7, 8]), (4, [0, 1, 5, 7, 8, 16]), (5, [4]), (6, [0, 1, 7, 8]), (7, [4])] [(2, [0, 1, 7, 8])] false) f_slices_Index_bool = some c_slices_Index_bool := by kernel_rfl
theorem S_impl_isExpression : compF Tryz.prog (Flags.mk [] [(0, [0]), (1, [2])] [] false) f_impl_isExpression = some c_impl_isExpression := by kernel_rfl
theorem S_impl_Tree_expressionText : compF Tryz.prog (Flags.mk [3] [(0, [0, 3]), (1, [0, 3, 6]), (2, [0, 3, 6, 7]), (3, [4]), (4, [0, 3, 6, 12]), (5, [4]), (6, [0, 3, 6, 17]), (7, [4]), (8, [0, 3, 6, 23]), (9, [4]), (10, [0, 3, 6, 25]), (11, [4]), (12, [0, 3, 6, 29]), (13, [4]), (14, [0, 3, 6, 42]), (15, [4]), (16, [0, 3, 6, 53]), (17, [4]), (18, [0, 3, 61]), (19, [4]), (20, [4])] [] false) f_impl_Tree_expressionText = some c_impl_Tree_expressionText := by kernel_rfl
theorem S_impl_Tree_text_1 : compF Tryz.prog (Flags.mk [] [(0, [0, 1, 2]), (1, [4])] [] false) f_impl_Tree_text_1 = some c_impl_Tree_text_1 := by kernel_rfl
theorem S_laws_eqStringS : compF Tryz.prog (Flags.mk [] [(0, [0, 1]), (1, [0, 1, 10]), (2, [4]), (3, [0, 1, 5]), (4, [0, 1, 5, 14]), (5, [0, 1, 5]), (6, [0, 1, 5, 25]), (7, [4]), (8, [4])] [(4, [0, 1, 5])] false) f_laws_eqStringS = some c_laws_eqStringS := by kernel_rfl
theorem S_laws_eqIntS : compF Tryz.prog (Flags.mk [] [(0, [0, 1]), (1, [0, 1, 10]), (2, [4]), (3, [0, 1, 5]), (4, [0, 1, 5, 14]), (5, [0, 1, 5]), (6, [0, 1, 5, 25]), (7, [4]), (8, [4])] [(4, [0, 1, 5])] false) f_laws_eqIntS = some c_laws_eqIntS := by kernel_rfl
theorem S_spec_l01In : compF Tryz.prog (Flags.mk [] [(0, [0, 1, 2]), (1, [6])] [] false) f_spec_l01In = some c_spec_l01In := by kernel_rfl
theorem S_spec_l03Expr : compF Tryz.prog (Flags.mk [] [(0, [0]), (1, [2])] [] false) f_spec_l03Expr = some c_spec_l03Expr := by kernel_rfl
theorem S_spec_l03State : compF Tryz.prog (Flags.mk [] [(0, [0]), (1, [2])] [] false) f_spec_l03State = some c_spec_l03State := by kernel_rfl
theorem S_spec_l03Kids : compF Tryz.prog (Flags.mk [1, 55] [(0, [1]), (1, [1, 6]), (2, [1, 6, 7]), (3, [1, 6, 7]), (4, [1, 6, 7]), (5, [1, 6, 7]), (6, [1, 6, 7]), (7, [1, 6, 7]), (8, [2]), (9, [1, 6, 15]), (10, [1, 6, 15]), (11, [1, 6, 15]), (12, [2]), (13, [1, 6, 20]), (14, [25]), (15, [2]), (16, [2]), (17, [1, 6, 28]), (18, [2]), (19, [1, 6, 31]), (20, [2]), (21, [1, 6, 34]), (22, [2]), (23, [1, 6, 37]), (24, [1, 37]), (25, [1, 3]), (26, [1, 3, 4]), (27, [1, 3, 4, 45]), (28, [1, 3, 4]), (29, [1, 3, 4]), (30, [2]), (31, [2])] [(27, [1, 3, 4])] false) f_spec_l03Kids = some c_spec_l03Kids := by kernel_rfl
theorem S_spec_l03Node : compF Tryz.prog (Flags.mk [1] [(0, [1]), (1, [1, 3]), (2, [1, 3, 33]), (3, [2]), (4, [1, 3, 51]), (5, [2]), (6, [1, 3, 69]), (7, [2]), (8, [1, 3, 84]), (9, [2]), (10, [1, 3, 91]), (11, [2]), (12, [1, 3, 103]), (13, [2]), (14, [1, 110]), (15, [1, 4]), (16, [1, 4, 116]), (17, [1, 4]), (18, [1, 4, 125]), (19, [2]), (20, [2]), (21, [2])] [(16, [1, 4])] false) f_spec_l03Node = some c_spec_l03Node := by kernel_rfl
theorem S_impl_Node_plain : compF Tryz.prog (Flags.mk [1, 2, 3] [(0, [1, 2]), (1, [1, 2, 3]), (2, [1, 2, 3, 10]), (3, [1, 2, 3, 10, 11]), (4, [1, 2, 3, 10, 11]), (5, [2, 3]), (6, [1, 2, 3, 10, 17]), (7, [1, 2, 3, 10, 17]), (8, [1, 2, 3, 10, 17]), (9, [1, 2, 3, 10, 17]), (10, [1, 2, 3, 10, 17]), (11, [1, 2, 3, 10, 17]), (12, [1, 2, 3, 10, 17]), (13, [1, 2, 3, 10, 17]), (14, [2, 3]), (15, [1, 2, 3, 29]), (16, [2, 3]), (17, [2])] [] false) f_impl_Node_plain = some c_impl_Node_plain := by kernel_rfl
theorem S_impl_wordText : compF Tryz.prog (Flags.mk [] [(0, [0]), (1, [2])] [] false) f_impl_wordText = some c_impl_wordText := by kernel_rfl
theorem S_impl_isUnary : compF Tryz.prog (Flags.mk [] [(0, [0]), (1, [2])] [] false) f_impl_isUnary = some c_impl_isUnary := by kernel_rfl
theorem S_impl_isBinary : compF Tryz.prog (Flags.mk [] [(0, [0]), (1, [2])] [] false) f_impl_isBinary = some c_impl_isBinary := by kernel_rfl
theorem S_impl_identOK : compF Tryz.prog (Flags.mk [] [(0, [0]), (1, [2])] [] false) f_impl_identOK = some c_impl_identOK := by kernel_rfl
theorem S_slices_ContainsFunc_string : compF Tryz.prog (Flags.mk [] [(0, [0, 1]), (1, [4])] [] false) f_slices_ContainsFunc_string = some c_slices_ContainsFunc_string := by kernel_rfl
theorem S_impl_Node_fieldsOK_1 : compF Tryz.prog (Flags.mk [] [(0, [0]), (1, [2])] [] false) f_impl_Node_fieldsOK_1 = some c_impl_Node_fieldsOK_1 := by kernel_rfl
theorem S_impl_isStatement : compF Tryz.prog (Flags.mk [] [(0, [0, 1]), (1, [4])] [] false) f_impl_isStatement = some c_impl_isStatement := by kernel_rfl
theorem S_impl_quoteText : compF Tryz.prog (Flags.mk [21, 25, 29] [(0, [0]), (1, [0, 3]), (2, [3, 8, 9, 10]), (3, [3, 8, 9, 10, 11]), (4, [3, 5, 8, 9, 10]), (5, [3, 5, 8, 9, 10, 19]), (6, [3, 5, 8, 9, 10]), (7, [3, 8, 9, 10]), (8, [3, 8, 9, 10]), (9, [2])] [(3, [3, 8, 9, 10])] false) f_impl_quoteText = some c_impl_quoteText := by kernel_rfl
theorem S_strconv_FormatBool : compF Tryz.prog (Flags.mk [] [(0, [0]), (1, [2])] [] false) f_strconv_FormatBool = some c_strconv_FormatBool := by kernel_rfl
theorem S_spec_l02Plain : compF Tryz.prog (Flags.mk [] [(0, [0]), (1, [0, 3]), (2, [0, 3, 7]), (3, [0, 3]), (4, [0, 3, 15]), (5, [2]), (6, [2])] [(2, [0, 3])] false) f_spec_l02Plain = some c_spec_l02Plain := by kernel_rfl
theorem S_spec_l01Op : compF Tryz.prog (Flags.mk [] [(0, [0]), (1, [2])] [] false) f_spec_l01Op = some c_spec_l01Op := by kernel_rfl
theorem S_spec_l03Name : compF Tryz.prog (Flags.mk [] [(0, [0]), (1, [2])] [] false) f_spec_l03Name = some c_spec_l03Name := by kernel_rfl
theorem S_impl_printable : compF Tryz.prog (Flags.mk [] [(0, [0]), (1, [2])] [] false) f_impl_printable = some c_impl_printable := by kernel_rfl
theorem S_slices_Contains_string : compF Tryz.prog (Flags.mk [] [(0, [0, 1]), (1, [4])] [] false) f_slices_Contains_string = some c_slices_Contains_string := by kernel_rfl
theorem S_impl_NameOK : compF Tryz.prog (Flags.mk [] [(0, [0]), (1, [0, 12]), (2, [2]), (3, [0, 14, 15]), (4, [0, 14, 15, 16]), (5, [0, 3, 14, 15]), (6, [0, 14, 15, 29]), (7, [2]), (8, [0, 14, 15]), (9, [2])] [(4, [0, 14, 15])] false) f_impl_NameOK = some c_impl_NameOK := by kernel_rfl
theorem S_impl_WordOK : compF Tryz.prog (Flags.mk [] [(0, [0]), (1, [2])] [] false) f_impl_WordOK = some c_impl_WordOK := by kernel_rfl
theorem S_slices_IndexFunc_string : compF Tryz.prog (Flags.mk [] [(0, [0, 1]), (1, [0, 1, 7, 8]), (2, [0, 1, 7, 8, 9]), (3, [0, 1, 5, 7, 8]), (4, [0, 1, 5, 7, 8, 16]), (5, [4]), (6, [0, 1, 7, 8]), (7, [4])] [(2, [0, 1, 7, 8])] false) f_slices_IndexFunc_string = some c_slices_IndexFunc_string := by kernel_rfl
theorem S_strings_HasPrefix : compF Tryz.prog (Flags.mk [] [(0, [0, 1]), (1, [4])] [] false) f_strings_HasPrefix = some c_strings_HasPrefix := by kernel_rfl
theorem S_internal_strconv_FormatBool : compF Tryz.prog (Flags.mk [] [(0, [0]), (1, [3]), (2, [2]), (3, [2])] [] false) f_internal_strconv_FormatBool = some c_internal_strconv_FormatBool := by kernel_rfl
theorem S_spec_NameOK : compF Tryz.prog (Flags.mk [] [(0, [0]), (1, [2])] [] false) f_spec_NameOK = some c_spec_NameOK := by kernel_rfl
theorem S_spec_WordOK : compF Tryz.prog (Flags.mk [] [(0, [0]), (1, [0, 7]), (2, [2]), (3, [0, 3]), (4, [0, 3, 4]), (5, [0, 3, 4, 12]), (6, [0, 3, 4]), (7, [0, 3, 4, 20]), (8, [2]), (9, [2])] [(5, [0, 3, 4])] false) f_spec_WordOK = some c_spec_WordOK := by kernel_rfl
theorem S_impl_run : compF Tryz.prog (Flags.mk [] [(0, [0, 1, 2]), (1, [0, 1, 2, 17]), (2, [0, 1, 2]), (3, [6])] [(1, [0, 1, 2])] false) f_impl_run = some c_impl_run := by kernel_rfl
theorem S_impl_printable_1 : compF Tryz.prog (Flags.mk [] [(0, [0]), (1, [2])] [] false) f_impl_printable_1 = some c_impl_printable_1 := by kernel_rfl
theorem S_slices_Index_string : compF Tryz.prog (Flags.mk [] [(0, [0, 1]), (1, [0, 1, 7, 8]), (2, [0, 1, 7, 8, 9]), (3, [0, 1, 5, 7, 8]), (4, [0, 1, 5, 7, 8, 16]), (5, [4]), (6, [0, 1, 7, 8]), (7, [4])] [(2, [0, 1, 7, 8])] false) f_slices_Index_string = some c_slices_Index_string := by kernel_rfl
theorem S_impl_isDigit : compF Tryz.prog (Flags.mk [] [(0, [0]), (1, [2])] [] false) f_impl_isDigit = some c_impl_isDigit := by kernel_rfl
theorem S_impl_isLetter : compF Tryz.prog (Flags.mk [] [(0, [0]), (1, [2])] [] false) f_impl_isLetter = some c_impl_isLetter := by kernel_rfl
theorem S_impl_sourceWords : compF Tryz.prog (Flags.mk [] [(0, []), (1, [0])] [] false) f_impl_sourceWords = some c_impl_sourceWords := by kernel_rfl
theorem S_internal_stringslite_HasPrefix : compF Tryz.prog (Flags.mk [] [(0, [0, 1]), (1, [4])] [] false) f_internal_stringslite_HasPrefix = some c_internal_stringslite_HasPrefix := by kernel_rfl
theorem S_spec_l00Word : compF Tryz.prog (Flags.mk [] [(0, [0]), (1, [0, 17]), (2, [2]), (3, [0, 3]), (4, [0, 3, 21]), (5, [0, 3]), (6, [0, 3, 35]), (7, [2]), (8, [2])] [(4, [0, 3])] false) f_spec_l00Word = some c_spec_l00Word := by kernel_rfl
theorem S_spec_l02Words : compF Tryz.prog (Flags.mk [] [(0, []), (1, [0])] [] false) f_spec_l02Words = some c_spec_l02Words := by kernel_rfl
theorem S_spec_l00Letter : compF Tryz.prog (Flags.mk [] [(0, [0]), (1, [2])] [] false) f_spec_l00Letter = some c_spec_l00Letter := by kernel_rfl
theorem S_spec_l00Digit : compF Tryz.prog (Flags.mk [] [(0, [0]), (1, [2])] [] false) f_spec_l00Digit = some c_spec_l00Digit := by kernel_rfl
theorem CC_prog : ∀ f cf, CC f = some cf → ∃ fl, compF Tryz.prog fl f = some cf := by
  intro f cf h
  have key : ∀ x ∈ table, ∃ fl, compF Tryz.prog fl x.1 = some x.2 := by
    unfold table
    refine List.forall_mem_cons.2 ⟨⟨_, S_laws_FnExactTreeText⟩, ?_⟩
    refine List.forall_mem_cons.2 ⟨⟨_, S_laws_szTree⟩, ?_⟩
    refine List.forall_mem_cons.2 ⟨⟨_, S_spec_TreeText⟩, ?_⟩
    refine List.forall_mem_cons.2 ⟨⟨_, S_laws_toTree⟩, ?_⟩
    refine List.forall_mem_cons.2 ⟨⟨_, S_impl_TreeText⟩, ?_⟩
    refine List.forall_mem_cons.2 ⟨⟨_, S_laws_eqTree⟩, ?_⟩
    refine List.forall_mem_cons.2 ⟨⟨_, S_laws_szNodeS⟩, ?_⟩
    refine List.forall_mem_cons.2 ⟨⟨_, S_spec_TreeOK⟩, ?_⟩
    refine List.forall_mem_cons.2 ⟨⟨_, S_spec_l03Text⟩, ?_⟩
    refine List.forall_mem_cons.2 ⟨⟨_, S_spec_l00Join⟩, ?_⟩
    refine List.forall_mem_cons.2 ⟨⟨_, S_laws_toNodeS⟩, ?_⟩
    refine List.forall_mem_cons.2 ⟨⟨_, S_impl_TreeOK⟩, ?_⟩
    refine List.forall_mem_cons.2 ⟨⟨_, S_impl_Tree_texts⟩, ?_⟩
    refine List.forall_mem_cons.2 ⟨⟨_, S_laws_eqNodeS⟩, ?_⟩
    refine List.forall_mem_cons.2 ⟨⟨_, S_laws_szNode⟩, ?_⟩
    refine List.forall_mem_cons.2 ⟨⟨_, S_spec_l03Tree⟩, ?_⟩
    refine List.forall_mem_cons.2 ⟨⟨_, S_spec_l00Digits⟩, ?_⟩
    refine List.forall_mem_cons.2 ⟨⟨_, S_spec_l02Quote⟩, ?_⟩
    refine List.forall_mem_cons.2 ⟨⟨_, S_spec_l01ValueText⟩, ?_⟩
    refine List.forall_mem_cons.2 ⟨⟨_, S_spec_l01Bool⟩, ?_⟩
    refine List.forall_mem_cons.2 ⟨⟨_, S_laws_toNode⟩, ?_⟩
    refine List.forall_mem_cons.2 ⟨⟨_, S_impl_within⟩, ?_⟩
    refine List.forall_mem_cons.2 ⟨⟨_, S_impl_checker_walk⟩, ?_⟩
    refine List.forall_mem_cons.2 ⟨⟨_, S_slices_Contains_bool⟩, ?_⟩
    refine List.forall_mem_cons.2 ⟨⟨_, S_impl_Tree_text⟩, ?_⟩
    refine List.forall_mem_cons.2 ⟨⟨_, S_laws_eqNode⟩, ?_⟩
    refine List.forall_mem_cons.2 ⟨⟨_, S_laws_szStringS⟩, ?_⟩
    refine List.forall_mem_cons.2 ⟨⟨_, S_laws_szIntS⟩, ?_⟩
    refine List.forall_mem_cons.2 ⟨⟨_, S_spec_l03Look_walk⟩, ?_⟩
    refine List.forall_mem_cons.2 ⟨⟨_, S_spec_l01Bit⟩, ?_⟩
    refine List.forall_mem_cons.2 ⟨⟨_, S_laws_toStringS⟩, ?_⟩
    refine List.forall_mem_cons.2 ⟨⟨_, S_laws_toIntS⟩, ?_⟩
    refine List.forall_mem_cons.2 ⟨⟨_, S_impl_Node_fieldsOK⟩, ?_⟩
    refine List.forall_mem_cons.2 ⟨⟨_, S_impl_kidKinds⟩, ?_⟩
    refine List.forall_mem_cons.2 ⟨⟨_, S_impl_checker_fits⟩, ?_⟩
    refine List.forall_mem_cons.2 ⟨⟨_, S_slices_Index_bool⟩, ?_⟩
    refine List.forall_mem_cons.2 ⟨⟨_, S_impl_isExpression⟩, ?_⟩
    refine List.forall_mem_cons.2 ⟨⟨_, S_impl_Tree_expressionText⟩, ?_⟩
    refine List.forall_mem_cons.2 ⟨⟨_, S_impl_Tree_text_1⟩, ?_⟩
    refine List.forall_mem_cons.2 ⟨⟨_, S_laws_eqStringS⟩, ?_⟩
    refine List.forall_mem_cons.2 ⟨⟨_, S_laws_eqIntS⟩, ?_⟩
    refine List.forall_mem_cons.2 ⟨⟨_, S_spec_l01In⟩, ?_⟩
    refine List.forall_mem_cons.2 ⟨⟨_, S_spec_l03Expr⟩, ?_⟩
    refine List.forall_mem_cons.2 ⟨⟨_, S_spec_l03State⟩, ?_⟩
    refine List.forall_mem_cons.2 ⟨⟨_, S_spec_l03Kids⟩, ?_⟩
    refine List.forall_mem_cons.2 ⟨⟨_, S_spec_l03Node⟩, ?_⟩
    refine List.forall_mem_cons.2 ⟨⟨_, S_impl_Node_plain⟩, ?_⟩
    refine List.forall_mem_cons.2 ⟨⟨_, S_impl_wordText⟩, ?_⟩
    refine List.forall_mem_cons.2 ⟨⟨_, S_impl_isUnary⟩, ?_⟩
    refine List.forall_mem_cons.2 ⟨⟨_, S_impl_isBinary⟩, ?_⟩
    refine List.forall_mem_cons.2 ⟨⟨_, S_impl_identOK⟩, ?_⟩
    refine List.forall_mem_cons.2 ⟨⟨_, S_slices_ContainsFunc_string⟩, ?_⟩
    refine List.forall_mem_cons.2 ⟨⟨_, S_impl_Node_fieldsOK_1⟩, ?_⟩
    refine List.forall_mem_cons.2 ⟨⟨_, S_impl_isStatement⟩, ?_⟩
    refine List.forall_mem_cons.2 ⟨⟨_, S_impl_quoteText⟩, ?_⟩
    refine List.forall_mem_cons.2 ⟨⟨_, S_strconv_FormatBool⟩, ?_⟩
    refine List.forall_mem_cons.2 ⟨⟨_, S_spec_l02Plain⟩, ?_⟩
    refine List.forall_mem_cons.2 ⟨⟨_, S_spec_l01Op⟩, ?_⟩
    refine List.forall_mem_cons.2 ⟨⟨_, S_spec_l03Name⟩, ?_⟩
    refine List.forall_mem_cons.2 ⟨⟨_, S_impl_printable⟩, ?_⟩
    refine List.forall_mem_cons.2 ⟨⟨_, S_slices_Contains_string⟩, ?_⟩
    refine List.forall_mem_cons.2 ⟨⟨_, S_impl_NameOK⟩, ?_⟩
    refine List.forall_mem_cons.2 ⟨⟨_, S_impl_WordOK⟩, ?_⟩
    refine List.forall_mem_cons.2 ⟨⟨_, S_slices_IndexFunc_string⟩, ?_⟩
    refine List.forall_mem_cons.2 ⟨⟨_, S_strings_HasPrefix⟩, ?_⟩
    refine List.forall_mem_cons.2 ⟨⟨_, S_internal_strconv_FormatBool⟩, ?_⟩
    refine List.forall_mem_cons.2 ⟨⟨_, S_spec_NameOK⟩, ?_⟩
    refine List.forall_mem_cons.2 ⟨⟨_, S_spec_WordOK⟩, ?_⟩
    refine List.forall_mem_cons.2 ⟨⟨_, S_impl_run⟩, ?_⟩
    refine List.forall_mem_cons.2 ⟨⟨_, S_impl_printable_1⟩, ?_⟩
    refine List.forall_mem_cons.2 ⟨⟨_, S_slices_Index_string⟩, ?_⟩
    refine List.forall_mem_cons.2 ⟨⟨_, S_impl_isDigit⟩, ?_⟩
    refine List.forall_mem_cons.2 ⟨⟨_, S_impl_isLetter⟩, ?_⟩
    refine List.forall_mem_cons.2 ⟨⟨_, S_impl_sourceWords⟩, ?_⟩
    refine List.forall_mem_cons.2 ⟨⟨_, S_internal_stringslite_HasPrefix⟩, ?_⟩
    refine List.forall_mem_cons.2 ⟨⟨_, S_spec_l00Word⟩, ?_⟩
    refine List.forall_mem_cons.2 ⟨⟨_, S_spec_l02Words⟩, ?_⟩
    refine List.forall_mem_cons.2 ⟨⟨_, S_spec_l00Letter⟩, ?_⟩
    refine List.forall_mem_cons.2 ⟨⟨_, S_spec_l00Digit⟩, ?_⟩
    intro x hx; cases hx
  exact key _ (lk_mem h)
theorem mixed : Tryz.prog.follows .mixedOrders = true := by kernel_rfl
end Go.X
