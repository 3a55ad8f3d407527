/- Printed by gencf.py (mine): the resolved functions are the program's. -/
import Derived.Test.YtekcdlibmngkiaaXC1
import Derived.Test.YtekcdlibmngkiaaProg
import Derived.KernelRfl
namespace Go.X
open Go Go.Proofs
set_option maxRecDepth 100000
theorem S_laws_FnExactComes : compF Try.prog (Flags.mk [3, 10] [(0, [1, 2, 3]), (1, [1, 2, 3, 15]), (2, [6]), (3, [1, 2, 3, 18]), (4, [6]), (5, [1, 2, 3, 7]), (6, [1, 2, 3, 7]), (7, [1, 2, 3, 23]), (8, [6]), (9, [1, 2, 3, 8, 9]), (10, [1, 2, 3, 8, 9, 10]), (11, [3, 8, 9, 10, 11, 12]), (12, [3, 10, 48]), (13, [6]), (14, [53]), (15, [6]), (16, [6])] [] false) f_laws_FnExactComes = some c_laws_FnExactComes := by kernel_rfl
theorem S_laws_FnExactPathTo : compF Try.prog (Flags.mk [2, 8] [(0, [1, 2]), (1, [1, 2, 5]), (2, [1, 2, 5]), (3, [1, 2, 20]), (4, [4]), (5, [1, 2, 6, 7]), (6, [1, 2, 6, 7, 8]), (7, [1, 2, 6, 7, 8, 9, 10]), (8, [1, 2, 6, 7, 8, 9, 10, 44]), (9, [4]), (10, [1, 2, 6, 7, 8, 9, 10, 49]), (11, [4]), (12, [1, 2, 6, 7, 8, 9, 10, 11]), (13, [1, 2, 6, 7, 9, 10, 11]), (14, [1, 2, 6, 7, 9, 65]), (15, [4]), (16, [1, 2, 6, 7, 9, 12]), (17, [1, 2, 6, 7, 9, 12]), (18, [1, 2, 6, 7, 9, 12, 13]), (19, [1, 2, 6, 7, 9, 12, 13]), (20, [1, 2, 6, 7, 9, 12, 13, 73]), (21, [4]), (22, [1, 2, 6, 7, 9, 12, 76]), (23, [4]), (24, [6, 7, 9, 12, 14, 15]), (25, [9, 12, 92]), (26, [4]), (27, [9, 12, 13]), (28, [12, 13]), (29, [12, 13, 97]), (30, [4]), (31, [100]), (32, [4]), (33, [4])] [] false) f_laws_FnExactPathTo = some c_laws_FnExactPathTo := by kernel_rfl
theorem S_laws_FnExactScopeAt : compF Try.prog (Flags.mk [2, 8] [(0, [1, 2]), (1, [1, 2, 5]), (2, [1, 2, 5]), (3, [1, 2, 20]), (4, [4]), (5, [1, 2, 6, 7]), (6, [1, 2, 6, 7, 8]), (7, [1, 2, 6, 7, 8, 9, 10]), (8, [1, 2, 6, 7, 8, 9, 10, 44]), (9, [4]), (10, [1, 2, 6, 7, 8, 9, 10, 49]), (11, [4]), (12, [1, 2, 6, 7, 8, 9, 10, 11]), (13, [1, 2, 6, 7, 9, 10, 11]), (14, [1, 2, 6, 7, 9, 65]), (15, [4]), (16, [1, 2, 6, 7, 9, 12]), (17, [1, 2, 6, 7, 9, 12]), (18, [1, 2, 6, 7, 9, 12, 13]), (19, [1, 2, 6, 7, 9, 12, 13]), (20, [1, 2, 6, 7, 9, 12, 13, 73]), (21, [4]), (22, [1, 2, 6, 7, 9, 12, 76]), (23, [4]), (24, [6, 7, 9, 12, 14, 15]), (25, [9, 12, 92]), (26, [4]), (27, [9, 12, 13]), (28, [12, 13]), (29, [12, 13, 97]), (30, [4]), (31, [100]), (32, [4]), (33, [4])] [] false) f_laws_FnExactScopeAt = some c_laws_FnExactScopeAt := by kernel_rfl
theorem S_laws_FnExactCallsOf : compF Try.prog (Flags.mk [2, 8] [(0, [1, 2]), (1, [1, 2, 5]), (2, [1, 2, 5]), (3, [1, 2, 20]), (4, [4]), (5, [1, 2, 6, 7]), (6, [1, 2, 6, 7, 8]), (7, [1, 2, 6, 7, 8, 9, 10]), (8, [1, 2, 6, 7, 8, 9, 10, 44]), (9, [4]), (10, [1, 2, 6, 7, 8, 9, 10, 49]), (11, [4]), (12, [1, 2, 6, 7, 8, 9, 10, 11]), (13, [1, 2, 6, 7, 9, 10, 11]), (14, [1, 2, 6, 7, 9, 65]), (15, [4]), (16, [1, 2, 6, 7, 9, 12]), (17, [1, 2, 6, 7, 9, 12]), (18, [1, 2, 6, 7, 9, 12, 13]), (19, [1, 2, 6, 7, 9, 12, 13]), (20, [1, 2, 6, 7, 9, 12, 13, 73]), (21, [4]), (22, [1, 2, 6, 7, 9, 12, 76]), (23, [4]), (24, [6, 7, 9, 12, 14, 15]), (25, [9, 12, 92]), (26, [4]), (27, [9, 12, 13]), (28, [12, 13]), (29, [12, 13, 97]), (30, [4]), (31, [100]), (32, [4]), (33, [4])] [] false) f_laws_FnExactCallsOf = some c_laws_FnExactCallsOf := by kernel_rfl
theorem S_laws_szTree : compF Try.prog (Flags.mk [2] [(0, [1, 2]), (1, [1]), (2, [1, 10]), (3, [4]), (4, [4])] [] false) f_laws_szTree = some c_laws_szTree := by kernel_rfl
theorem S_spec_Comes : compF Try.prog (Flags.mk [3, 88, 95] [(0, [1, 2, 3]), (1, [1, 2, 3, 21]), (2, [6, 7]), (3, [1, 2, 3, 24]), (4, [6, 7]), (5, [1, 2, 3, 34]), (6, [6, 7]), (7, [1, 2, 3, 8]), (8, [2, 3, 8, 9]), (9, [2, 3, 8, 9, 40]), (10, [2, 3, 8, 9, 10]), (11, [2, 3, 8, 9, 10]), (12, [2, 3, 8, 9, 10, 11]), (13, [2, 3, 8, 9, 10, 11, 54]), (14, [2, 3, 8, 9, 10, 11]), (15, [2, 3, 8, 9, 10, 11, 62]), (16, [6, 7]), (17, [2, 3, 8, 9, 10, 11, 12]), (18, [2, 3, 8, 9, 10, 11, 12, 13]), (19, [2, 3, 8, 9, 10, 11, 12, 13, 66]), (20, [2, 3, 8, 9, 10, 11, 12, 13]), (21, [2, 3, 8, 9, 10, 11, 12, 13]), (22, [2, 3, 8, 9, 10, 11, 82]), (23, [2, 3, 8, 9, 10, 11]), (24, [2, 3, 8, 9, 10, 11]), (25, [6, 7])] [(9, [2, 3, 8, 9]), (13, [2, 3, 8, 9, 10, 11]), (19, [2, 3, 8, 9, 10, 11, 12, 13])] false) f_spec_Comes = some c_spec_Comes := by kernel_rfl
theorem S_laws_toTree : compF Try.prog (Flags.mk [1, 2, 3] [(0, [1, 2]), (1, [1, 2, 3]), (2, [1, 2, 3]), (3, [2, 3]), (4, [2])] [] false) f_laws_toTree = some c_laws_toTree := by kernel_rfl
theorem S_impl_Comes : compF Try.prog (Flags.mk [] [(0, [1, 2, 3]), (1, [1, 2, 3, 8]), (2, [6, 7]), (3, [1, 2, 3, 17]), (4, [6, 7]), (5, [1, 2, 3, 21]), (6, [6, 7]), (7, [6, 7])] [] false) f_impl_Comes = some c_impl_Comes := by kernel_rfl
theorem S_laws_eqTree : compF Try.prog (Flags.mk [2, 3] [(0, [2, 3]), (1, [2, 3, 10]), (2, [4]), (3, [15]), (4, [4]), (5, [4])] [] false) f_laws_eqTree = some c_laws_eqTree := by kernel_rfl
theorem S_spec_PathTo : compF Try.prog (Flags.mk [2] [(0, [1, 2]), (1, [1, 2, 6]), (2, [1, 2, 6, 12]), (3, [4, 5]), (4, [1, 2, 7]), (5, [1, 2, 7, 20]), (6, [1, 2, 7]), (7, [1, 2, 7]), (8, [4, 5])] [(5, [1, 2, 7])] false) f_spec_PathTo = some c_spec_PathTo := by kernel_rfl
theorem S_impl_PathTo : compF Try.prog (Flags.mk [21] [(0, [1, 2]), (1, [1, 2, 6]), (2, [1, 2, 6, 12]), (3, [4, 5]), (4, [1, 2, 7]), (5, [1, 2, 7, 16]), (6, [1, 2, 7]), (7, [1, 2, 7]), (8, [7]), (9, [4, 5])] [(5, [1, 2, 7])] false) f_impl_PathTo = some c_impl_PathTo := by kernel_rfl
theorem S_laws_eqIntS : compF Try.prog (Flags.mk [] [(0, [0, 1]), (1, [0, 1, 10]), (2, [4]), (3, [0, 1, 5]), (4, [0, 1, 5, 14]), (5, [0, 1, 5]), (6, [0, 1, 5, 25]), (7, [4]), (8, [4])] [(4, [0, 1, 5])] false) f_laws_eqIntS = some c_laws_eqIntS := by kernel_rfl
theorem S_laws_markTree : compF Try.prog (Flags.mk [2] [(0, [1, 2]), (1, [1]), (2, [4])] [] false) f_laws_markTree = some c_laws_markTree := by kernel_rfl
theorem S_laws_markIntS : compF Try.prog (Flags.mk [] [(0, [0, 1]), (1, [0, 1, 5]), (2, [0, 1, 5, 9]), (3, [0, 1, 5]), (4, [0, 1, 5]), (5, [0, 1, 5]), (6, [4])] [(2, [0, 1, 5])] false) f_laws_markIntS = some c_laws_markIntS := by kernel_rfl
theorem S_laws_heldIntS : compF Try.prog (Flags.mk [] [(0, [0, 1]), (1, [0, 1, 5]), (2, [0, 1, 5, 9]), (3, [0, 1, 5]), (4, [0, 1, 5, 17]), (5, [4]), (6, [0, 1, 5]), (7, [4])] [(2, [0, 1, 5])] false) f_laws_heldIntS = some c_laws_heldIntS := by kernel_rfl
theorem S_spec_ScopeAt : compF Try.prog (Flags.mk [2] [(0, [1, 2]), (1, [1, 2, 8]), (2, [4, 5]), (3, [1, 2, 31]), (4, [4, 5]), (5, [4, 5])] [] false) f_spec_ScopeAt = some c_spec_ScopeAt := by kernel_rfl
theorem S_impl_ScopeAt : compF Try.prog (Flags.mk [] [(0, [1, 2]), (1, [1, 2, 6]), (2, [1, 2, 6, 11]), (3, [4, 5]), (4, [4, 5])] [] false) f_impl_ScopeAt = some c_impl_ScopeAt := by kernel_rfl
theorem S_laws_eqStringS : compF Try.prog (Flags.mk [] [(0, [0, 1]), (1, [0, 1, 10]), (2, [4]), (3, [0, 1, 5]), (4, [0, 1, 5, 14]), (5, [0, 1, 5]), (6, [0, 1, 5, 25]), (7, [4]), (8, [4])] [(4, [0, 1, 5])] false) f_laws_eqStringS = some c_laws_eqStringS := by kernel_rfl
theorem S_laws_markStringS : compF Try.prog (Flags.mk [] [(0, [0, 1]), (1, [0, 1, 5]), (2, [0, 1, 5, 9]), (3, [0, 1, 5]), (4, [0, 1, 5]), (5, [0, 1, 5]), (6, [4])] [(2, [0, 1, 5])] false) f_laws_markStringS = some c_laws_markStringS := by kernel_rfl
theorem S_laws_heldStringS : compF Try.prog (Flags.mk [] [(0, [0, 1]), (1, [0, 1, 5]), (2, [0, 1, 5, 9]), (3, [0, 1, 5]), (4, [0, 1, 5, 18]), (5, [4]), (6, [0, 1, 5]), (7, [4])] [(2, [0, 1, 5])] false) f_laws_heldStringS = some c_laws_heldStringS := by kernel_rfl
theorem S_spec_CallsOf : compF Try.prog (Flags.mk [2] [(0, [1, 2]), (1, [1, 2, 6]), (2, [1, 2, 6, 11]), (3, [4, 5]), (4, [4, 5])] [] false) f_spec_CallsOf = some c_spec_CallsOf := by kernel_rfl
theorem S_impl_CallsOf : compF Try.prog (Flags.mk [] [(0, [1, 2]), (1, [1, 2, 6]), (2, [1, 2, 6, 11]), (3, [4, 5]), (4, [4, 5])] [] false) f_impl_CallsOf = some c_impl_CallsOf := by kernel_rfl
theorem S_laws_szNodeS : compF Try.prog (Flags.mk [] [(0, [0, 1]), (1, [0, 1]), (2, [0, 1, 11]), (3, [4]), (4, [0, 1, 5]), (5, [0, 1, 5, 15]), (6, [0, 1, 5]), (7, [0, 1, 5]), (8, [0, 1, 5, 25]), (9, [4]), (10, [4])] [(5, [0, 1, 5])] false) f_laws_szNodeS = some c_laws_szNodeS := by kernel_rfl
theorem S_spec_TreeOK : compF Try.prog (Flags.mk [1] [(0, [1]), (1, [3]), (2, [2])] [] false) f_spec_TreeOK = some c_spec_TreeOK := by kernel_rfl
theorem S_spec_l04Func : compF Try.prog (Flags.mk [2] [(0, [1, 2]), (1, [1, 2, 5]), (2, [1, 2, 5, 6]), (3, [1, 2, 5, 6, 17]), (4, [1, 2, 5, 6]), (5, [1, 2, 5, 6, 42]), (6, [4]), (7, [4])] [(3, [1, 2, 5, 6])] false) f_spec_l04Func = some c_spec_l04Func := by kernel_rfl
theorem S_spec_l04Calls : compF Try.prog (Flags.mk [3, 7, 71] [(0, [1, 2, 3]), (1, [2, 3, 7]), (2, [2, 3, 7, 8]), (3, [2, 3, 7, 8, 19]), (4, [2, 3, 7, 8]), (5, [2, 3, 7, 8, 32]), (6, [2, 3, 7, 8]), (7, [2, 7, 50]), (8, [6]), (9, [2, 7, 9]), (10, [2, 7, 9, 55]), (11, [2, 7, 9]), (12, [2, 7, 9, 64]), (13, [6]), (14, [6])] [(3, [2, 3, 7, 8]), (10, [2, 7, 9])] false) f_spec_l04Calls = some c_spec_l04Calls := by kernel_rfl
theorem S_laws_toNodeS : compF Try.prog (Flags.mk [] [(0, [0]), (1, [0, 3]), (2, [0, 3, 4]), (3, [0, 3, 4, 11]), (4, [0, 3, 4]), (5, [0, 3, 4]), (6, [2])] [(3, [0, 3, 4])] false) f_laws_toNodeS = some c_laws_toNodeS := by kernel_rfl
theorem S_impl_TreeOK : compF Try.prog (Flags.mk [1] [(0, [1]), (1, [1, 27]), (2, [2]), (3, [1, 3]), (4, [2])] [] false) f_impl_TreeOK = some c_impl_TreeOK := by kernel_rfl
theorem S_slices_Contains_string : compF Try.prog (Flags.mk [] [(0, [0, 1]), (1, [4])] [] false) f_slices_Contains_string = some c_slices_Contains_string := by kernel_rfl
theorem S_impl_Tree_funcNames : compF Try.prog (Flags.mk [23] [(0, [0]), (1, [0, 3]), (2, [0, 3, 8, 9, 10]), (3, [0, 3, 8, 9, 10, 11]), (4, [0, 3, 5, 8, 9, 10]), (5, [0, 3, 8, 9, 10]), (6, [0, 3, 8, 9, 10]), (7, [2])] [(3, [0, 3, 8, 9, 10])] false) f_impl_Tree_funcNames = some c_impl_Tree_funcNames := by kernel_rfl
theorem S_impl_Tree_comes : compF Try.prog (Flags.mk [44, 48] [(0, [0, 1]), (1, [0, 1, 5, 6]), (2, [0, 5, 6, 7]), (3, [0, 5, 6, 7, 18]), (4, [0, 5, 6, 7]), (5, [0, 5, 6, 7, 8]), (6, [0, 5, 6, 7, 32, 33, 34]), (7, [0, 5, 6, 7, 32, 33, 34, 35]), (8, [0, 5, 6, 7, 10, 32, 33, 34]), (9, [0, 5, 6, 7, 10, 32, 33, 34, 41]), (10, [0, 5, 6, 7, 32, 33, 34]), (11, [0, 5, 6, 7, 32, 33, 34]), (12, [4])] [(3, [0, 5, 6, 7]), (7, [0, 5, 6, 7, 32, 33, 34])] false) f_impl_Tree_comes = some c_impl_Tree_comes := by kernel_rfl
theorem S_laws_eqNodeS : compF Try.prog (Flags.mk [] [(0, [0, 1]), (1, [0, 1, 10]), (2, [4]), (3, [0, 1, 5]), (4, [0, 1, 5, 14]), (5, [0, 1, 5]), (6, [0, 1, 5, 26]), (7, [4]), (8, [4])] [(4, [0, 1, 5])] false) f_laws_eqNodeS = some c_laws_eqNodeS := by kernel_rfl
theorem S_spec_l03Place : compF Try.prog (Flags.mk [2] [(0, [1, 2]), (1, [1, 2, 7]), (2, [4]), (3, [14]), (4, [4]), (5, [4])] [] false) f_spec_l03Place = some c_spec_l03Place := by kernel_rfl
theorem S_spec_l03Parent : compF Try.prog (Flags.mk [2] [(0, [1, 2]), (1, [1, 2, 5]), (2, [1, 2, 5, 11]), (3, [1, 2, 5]), (4, [1, 2, 5, 6]), (5, [1, 2, 5, 6, 22]), (6, [1, 2, 5, 6]), (7, [1, 2, 5, 6, 35]), (8, [4]), (9, [4])] [(2, [1, 2, 5]), (5, [1, 2, 5, 6])] false) f_spec_l03Parent = some c_spec_l03Parent := by kernel_rfl
theorem S_impl_askedNode : compF Try.prog (Flags.mk [2] [(0, [1, 2]), (1, [1, 2, 5]), (2, [4]), (3, [9]), (4, [4]), (5, [4])] [] false) f_impl_askedNode = some c_impl_askedNode := by kernel_rfl
theorem S_impl_Tree_parent : compF Try.prog (Flags.mk [] [(0, [0, 3]), (1, [4])] [] false) f_impl_Tree_parent = some c_impl_Tree_parent := by kernel_rfl
theorem S_slices_Reverse_int : compF Try.prog (Flags.mk [] [(0, [0, 2, 3]), (1, [0, 2, 3, 9]), (2, [0, 2, 3]), (3, [0, 2, 3])] [(1, [0, 2, 3])] false) f_slices_Reverse_int = some c_slices_Reverse_int := by kernel_rfl
theorem S_laws_markNodeS : compF Try.prog (Flags.mk [] [(0, [0, 1]), (1, [0, 1, 5]), (2, [0, 1, 5, 9]), (3, [0, 1, 5]), (4, [0, 1, 5]), (5, [0, 1, 5]), (6, [0, 1, 5]), (7, [0, 1, 5]), (8, [0, 1, 5]), (9, [0, 1, 5]), (10, [0, 1, 5]), (11, [0, 1, 5]), (12, [4])] [(2, [0, 1, 5])] false) f_laws_markNodeS = some c_laws_markNodeS := by kernel_rfl
theorem S_spec_l01In : compF Try.prog (Flags.mk [] [(0, [0, 1, 2]), (1, [6])] [] false) f_spec_l01In = some c_spec_l01In := by kernel_rfl
theorem S_spec_l04Start : compF Try.prog (Flags.mk [2] [(0, [1, 2]), (1, [1, 2, 5]), (2, [1, 2, 5, 14]), (3, [5]), (4, [1, 2, 5, 6]), (5, [1, 2, 5, 6, 26]), (6, [1, 2, 5, 6]), (7, [1, 2, 5, 6]), (8, [4])] [(5, [1, 2, 5, 6])] false) f_spec_l04Start = some c_spec_l04Start := by kernel_rfl
theorem S_impl_askedScope : compF Try.prog (Flags.mk [] [(0, [1, 2]), (1, [1, 2, 5]), (2, [4]), (3, [9]), (4, [4]), (5, [4])] [] false) f_impl_askedScope = some c_impl_askedScope := by kernel_rfl
theorem S_impl_Tree_begins : compF Try.prog (Flags.mk [] [(0, [0, 1]), (1, [0, 1, 10]), (2, [4]), (3, [4])] [] false) f_impl_Tree_begins = some c_impl_Tree_begins := by kernel_rfl
theorem S_laws_markText : compF Try.prog (Flags.mk [] [(0, [0]), (1, [0, 5]), (2, [2]), (3, [0, 3]), (4, [0, 3, 7]), (5, [0, 3]), (6, [0, 3]), (7, [2])] [(4, [0, 3])] true) f_laws_markText = some c_laws_markText := by kernel_rfl
theorem S_impl_Tree_calls : compF Try.prog (Flags.mk [7, 58] [(0, [0, 1, 2]), (1, [0, 2, 7]), (2, [0, 2, 7, 18, 19, 20]), (3, [0, 2, 7, 18, 19, 20, 21]), (4, [0, 2, 7, 9, 18, 19, 20]), (5, [0, 2, 7, 9, 18, 19, 20, 32]), (6, [0, 2, 7, 18, 19, 20]), (7, [0, 2, 7, 18, 19, 20]), (8, [2, 7, 54]), (9, [2]), (10, [6])] [(3, [0, 2, 7, 18, 19, 20])] false) f_impl_Tree_calls = some c_impl_Tree_calls := by kernel_rfl
theorem S_laws_szNode : compF Try.prog (Flags.mk [2] [(0, [1, 2]), (1, [1, 2]), (2, [1, 2, 11]), (3, [4]), (4, [1, 2]), (5, [1, 2, 17]), (6, [4]), (7, [1]), (8, [1, 23]), (9, [4]), (10, [4])] [] false) f_laws_szNode = some c_laws_szNode := by kernel_rfl
theorem S_spec_l03Tree : compF Try.prog (Flags.mk [1] [(0, [1]), (1, [1, 9]), (2, [2, 3]), (3, [1, 4]), (4, [4]), (5, [4, 5]), (6, [4, 5, 27]), (7, [4, 5]), (8, [4, 5]), (9, [2, 3])] [(6, [4, 5])] false) f_spec_l03Tree = some c_spec_l03Tree := by kernel_rfl
theorem S_laws_toNode : compF Try.prog (Flags.mk [1, 2, 3] [(0, [1, 2]), (1, [1, 2, 3]), (2, [1, 2, 3]), (3, [1, 2, 3]), (4, [1, 2, 3]), (5, [1, 2, 3]), (6, [2, 3]), (7, [2])] [] false) f_laws_toNode = some c_laws_toNode := by kernel_rfl
theorem S_impl_within : compF Try.prog (Flags.mk [] [(0, [0, 1, 2]), (1, [6])] [] false) f_impl_within = some c_impl_within := by kernel_rfl
theorem S_impl_checker_walk : compF Try.prog (Flags.mk [7] [(0, [0, 1, 2]), (1, [0, 1, 2, 7]), (2, [0, 1, 2, 7, 34]), (3, [6]), (4, [0, 1, 2, 7]), (5, [0, 1, 2, 7, 8]), (6, [0, 1, 2, 7, 8, 48]), (7, [6]), (8, [0, 1, 2, 8, 50, 51, 52]), (9, [0, 1, 2, 8, 50, 51, 52, 53]), (10, [0, 1, 2, 8, 9, 10, 50, 51, 52]), (11, [0, 1, 2, 8, 50, 51, 52, 90]), (12, [6]), (13, [0, 1, 2, 8, 50, 51, 52]), (14, [6])] [(9, [0, 1, 2, 8, 50, 51, 52])] false) f_impl_checker_walk = some c_impl_checker_walk := by kernel_rfl
theorem S_slices_Contains_bool : compF Try.prog (Flags.mk [] [(0, [0, 1]), (1, [4])] [] false) f_slices_Contains_bool = some c_slices_Contains_bool := by kernel_rfl
theorem S_slices_Index_string : compF Try.prog (Flags.mk [] [(0, [0, 1]), (1, [0, 1, 7, 8]), (2, [0, 1, 7, 8, 9]), (3, [0, 1, 5, 7, 8]), (4, [0, 1, 5, 7, 8, 16]), (5, [4]), (6, [0, 1, 7, 8]), (7, [4])] [(2, [0, 1, 7, 8])] false) f_slices_Index_string = some c_slices_Index_string := by kernel_rfl
theorem S_impl_Tree_functions : compF Try.prog (Flags.mk [34] [(0, [0]), (1, [0, 3]), (2, [0, 3, 17, 18, 19]), (3, [0, 3, 17, 18, 19, 20]), (4, [0, 3, 5, 17, 18, 19]), (5, [0, 3, 5, 17, 18, 19, 31]), (6, [0, 3, 17, 18, 19]), (7, [0, 3, 17, 18, 19]), (8, [2])] [(3, [0, 3, 17, 18, 19])] false) f_impl_Tree_functions = some c_impl_Tree_functions := by kernel_rfl
theorem S_laws_eqNode : compF Try.prog (Flags.mk [2, 3] [(0, [2, 3]), (1, [2, 3, 9]), (2, [4]), (3, [2, 3, 14]), (4, [4]), (5, [2, 3, 19]), (6, [4]), (7, [2, 3, 25]), (8, [4]), (9, [31]), (10, [4]), (11, [4])] [] false) f_laws_eqNode = some c_laws_eqNode := by kernel_rfl
theorem S_slices_IndexFunc_impl_Node : compF Try.prog (Flags.mk [] [(0, [0, 1]), (1, [0, 1, 7, 8]), (2, [0, 1, 7, 8, 9]), (3, [0, 1, 5, 7, 8]), (4, [0, 1, 5, 7, 8, 16]), (5, [4]), (6, [0, 1, 7, 8]), (7, [4])] [(2, [0, 1, 7, 8])] false) f_slices_IndexFunc_impl_Node = some c_slices_IndexFunc_impl_Node := by kernel_rfl
theorem S_impl_Tree_parent_1 : compF Try.prog (Flags.mk [2] [(0, [1, 2]), (1, [3])] [] false) f_impl_Tree_parent_1 = some c_impl_Tree_parent_1 := by kernel_rfl
theorem S_slices_Contains_int : compF Try.prog (Flags.mk [] [(0, [0, 1]), (1, [4])] [] false) f_slices_Contains_int = some c_slices_Contains_int := by kernel_rfl
theorem S_spec_l04Scope_bring : compF Try.prog (Flags.mk [40] [(0, [0, 1, 2, 6]), (1, [0, 1, 2, 6, 17]), (2, [0, 1, 2, 6]), (3, [0, 1, 2, 6, 28]), (4, [0, 1, 2, 6]), (5, [0, 2]), (6, [0, 2]), (7, [0, 2, 62]), (8, [])] [(1, [0, 1, 2, 6])] false) f_spec_l04Scope_bring = some c_spec_l04Scope_bring := by kernel_rfl
theorem S_slices_Clone_string : compF Try.prog (Flags.mk [] [(0, [0]), (1, [0, 4]), (2, [2]), (3, [2])] [] false) f_slices_Clone_string = some c_slices_Clone_string := by kernel_rfl
theorem S_laws_szStringS : compF Try.prog (Flags.mk [] [(0, [0, 1]), (1, [0, 1]), (2, [0, 1, 11]), (3, [4]), (4, [0, 1, 5]), (5, [0, 1, 5, 15]), (6, [0, 1, 5]), (7, [0, 1, 5]), (8, [0, 1, 5, 26]), (9, [4]), (10, [4])] [(5, [0, 1, 5])] false) f_laws_szStringS = some c_laws_szStringS := by kernel_rfl
theorem S_laws_szIntS : compF Try.prog (Flags.mk [] [(0, [0, 1]), (1, [1]), (2, [1, 10]), (3, [4]), (4, [4])] [] false) f_laws_szIntS = some c_laws_szIntS := by kernel_rfl
theorem S_spec_l03Look_walk : compF Try.prog (Flags.mk [8] [(0, [0, 1, 2, 3, 42]), (1, []), (2, [0, 1, 2, 3]), (3, [0, 1, 2, 3]), (4, [0, 1, 2, 3, 8]), (5, [0, 1, 3, 8, 9]), (6, [0, 1, 3, 8, 9, 10]), (7, [0, 1, 3, 8, 10, 124]), (8, []), (9, [0, 1, 3, 8, 10, 11]), (10, [0, 1, 3, 8, 10, 11, 131]), (11, [0, 1, 3, 8, 10, 11]), (12, [0, 1, 3, 8, 10, 11, 12]), (13, [0, 1, 3, 8, 10, 11, 12, 148]), (14, [0, 1, 3, 8, 10, 11, 12]), (15, [0, 1, 3, 8, 10, 11])] [(10, [0, 1, 3, 8, 10, 11])] false) f_spec_l03Look_walk = some c_spec_l03Look_walk := by kernel_rfl
theorem S_laws_toStringS : compF Try.prog (Flags.mk [] [(0, [0]), (1, [0, 3]), (2, [0, 3, 4]), (3, [0, 3, 4, 11]), (4, [0, 3, 4]), (5, [0, 3, 4]), (6, [2])] [(3, [0, 3, 4])] false) f_laws_toStringS = some c_laws_toStringS := by kernel_rfl
theorem S_laws_toIntS : compF Try.prog (Flags.mk [] [(0, [0]), (1, [0, 3]), (2, [0, 3, 4]), (3, [0, 3, 4, 11]), (4, [0, 3, 4]), (5, [0, 3, 4]), (6, [2])] [(3, [0, 3, 4])] false) f_laws_toIntS = some c_laws_toIntS := by kernel_rfl
theorem S_impl_Node_fieldsOK : compF Try.prog (Flags.mk [1, 3] [(0, [1]), (1, [1, 3]), (2, [1, 26]), (3, [2]), (4, [1, 28]), (5, [1, 28, 29]), (6, [2]), (7, [1, 28, 34]), (8, [2]), (9, [1, 28, 39]), (10, [2]), (11, [1, 28, 44]), (12, [2]), (13, [1, 28, 49]), (14, [2]), (15, [1, 28, 54]), (16, [1, 28, 54]), (17, [1, 28, 54]), (18, [1, 28, 54]), (19, [1, 28, 54]), (20, [2]), (21, [1, 63]), (22, [2]), (23, [2])] [] false) f_impl_Node_fieldsOK = some c_impl_Node_fieldsOK := by kernel_rfl
theorem S_impl_kidKinds : compF Try.prog (Flags.mk [1] [(0, [1]), (1, [1, 4]), (2, [1, 4, 5]), (3, [1, 4, 5]), (4, [1, 4, 5]), (5, [1, 4, 5]), (6, [1, 4, 5]), (7, [1, 4, 5]), (8, [2]), (9, [1, 4, 12]), (10, [1, 4, 12]), (11, [1, 4, 12]), (12, [2]), (13, [1, 4, 16]), (14, [2]), (15, [1, 4, 22]), (16, [2]), (17, [1, 4, 30]), (18, [2]), (19, [1, 4, 32]), (20, [2]), (21, [1, 4, 34]), (22, [2]), (23, [40]), (24, [2]), (25, [2])] [] false) f_impl_kidKinds = some c_impl_kidKinds := by kernel_rfl
theorem S_impl_checker_fits : compF Try.prog (Flags.mk [] [(0, [0, 1, 2, 3]), (1, [2, 3, 9]), (2, [3, 9, 19]), (3, [3, 9, 19, 20]), (4, [8]), (5, [3, 9, 24]), (6, [8]), (7, [8])] [] false) f_impl_checker_fits = some c_impl_checker_fits := by kernel_rfl
theorem S_slices_Index_bool : compF Try.prog (Flags.mk [] [(0, [0, 1]), (1, [0, 1, 7, 8]), (2, [0, 1, 7, 8, 9]), (3, [0, 1, 5, 7, 8]), (4, [0, 1, 5, 7, 8, 16]), (5, [4]), (6, [0, 1, 7, 8]), (7, [4])] [(2, [0, 1, 7, 8])] false) f_slices_Index_bool = some c_slices_Index_bool := by kernel_rfl
theorem S_slices_Index_int : compF Try.prog (Flags.mk [] [(0, [0, 1]), (1, [0, 1, 7, 8]), (2, [0, 1, 7, 8, 9]), (3, [0, 1, 5, 7, 8]), (4, [0, 1, 5, 7, 8, 16]), (5, [4]), (6, [0, 1, 7, 8]), (7, [4])] [(2, [0, 1, 7, 8])] false) f_slices_Index_int = some c_slices_Index_int := by kernel_rfl
theorem S_spec_l04Scope_fail : compF Try.prog (Flags.mk [] [(0, [0, 1, 2, 11]), (1, [])] [] false) f_spec_l04Scope_fail = some c_spec_l04Scope_fail := by kernel_rfl
theorem S_spec_l03Expr : compF Try.prog (Flags.mk [] [(0, [0]), (1, [2])] [] false) f_spec_l03Expr = some c_spec_l03Expr := by kernel_rfl
theorem S_spec_l03State : compF Try.prog (Flags.mk [] [(0, [0]), (1, [2])] [] false) f_spec_l03State = some c_spec_l03State := by kernel_rfl
theorem S_spec_l03Kids : compF Try.prog (Flags.mk [1, 55] [(0, [1]), (1, [1, 6]), (2, [1, 6, 7]), (3, [1, 6, 7]), (4, [1, 6, 7]), (5, [1, 6, 7]), (6, [1, 6, 7]), (7, [1, 6, 7]), (8, [2]), (9, [1, 6, 15]), (10, [1, 6, 15]), (11, [1, 6, 15]), (12, [2]), (13, [1, 6, 20]), (14, [25]), (15, [2]), (16, [2]), (17, [1, 6, 28]), (18, [2]), (19, [1, 6, 31]), (20, [2]), (21, [1, 6, 34]), (22, [2]), (23, [1, 6, 37]), (24, [1, 37]), (25, [1, 3]), (26, [1, 3, 4]), (27, [1, 3, 4, 45]), (28, [1, 3, 4]), (29, [1, 3, 4]), (30, [2]), (31, [2])] [(27, [1, 3, 4])] false) f_spec_l03Kids = some c_spec_l03Kids := by kernel_rfl
theorem S_spec_l03Node : compF Try.prog (Flags.mk [1] [(0, [1]), (1, [1, 3]), (2, [1, 3, 33]), (3, [2]), (4, [1, 3, 51]), (5, [2]), (6, [1, 3, 69]), (7, [2]), (8, [1, 3, 84]), (9, [2]), (10, [1, 3, 91]), (11, [2]), (12, [1, 3, 103]), (13, [2]), (14, [1, 110]), (15, [1, 4]), (16, [1, 4, 116]), (17, [1, 4]), (18, [1, 4, 125]), (19, [2]), (20, [2]), (21, [2])] [(16, [1, 4])] false) f_spec_l03Node = some c_spec_l03Node := by kernel_rfl
theorem S_impl_Node_plain : compF Try.prog (Flags.mk [1, 2, 3] [(0, [1, 2]), (1, [1, 2, 3]), (2, [1, 2, 3, 10]), (3, [1, 2, 3, 10, 11]), (4, [1, 2, 3, 10, 11]), (5, [2, 3]), (6, [1, 2, 3, 10, 17]), (7, [1, 2, 3, 10, 17]), (8, [1, 2, 3, 10, 17]), (9, [1, 2, 3, 10, 17]), (10, [1, 2, 3, 10, 17]), (11, [1, 2, 3, 10, 17]), (12, [1, 2, 3, 10, 17]), (13, [1, 2, 3, 10, 17]), (14, [2, 3]), (15, [1, 2, 3, 29]), (16, [2, 3]), (17, [2])] [] false) f_impl_Node_plain = some c_impl_Node_plain := by kernel_rfl
theorem S_impl_wordText : compF Try.prog (Flags.mk [] [(0, [0]), (1, [2])] [] false) f_impl_wordText = some c_impl_wordText := by kernel_rfl
theorem S_impl_isUnary : compF Try.prog (Flags.mk [] [(0, [0]), (1, [2])] [] false) f_impl_isUnary = some c_impl_isUnary := by kernel_rfl
theorem S_impl_isBinary : compF Try.prog (Flags.mk [] [(0, [0]), (1, [2])] [] false) f_impl_isBinary = some c_impl_isBinary := by kernel_rfl
theorem S_impl_identOK : compF Try.prog (Flags.mk [] [(0, [0]), (1, [2])] [] false) f_impl_identOK = some c_impl_identOK := by kernel_rfl
theorem S_slices_ContainsFunc_string : compF Try.prog (Flags.mk [] [(0, [0, 1]), (1, [4])] [] false) f_slices_ContainsFunc_string = some c_slices_ContainsFunc_string := by kernel_rfl
theorem S_impl_Node_fieldsOK_1 : compF Try.prog (Flags.mk [] [(0, [0]), (1, [2])] [] false) f_impl_Node_fieldsOK_1 = some c_impl_Node_fieldsOK_1 := by kernel_rfl
theorem S_impl_isExpression : compF Try.prog (Flags.mk [] [(0, [0]), (1, [2])] [] false) f_impl_isExpression = some c_impl_isExpression := by kernel_rfl
theorem S_impl_isStatement : compF Try.prog (Flags.mk [] [(0, [0, 1]), (1, [4])] [] false) f_impl_isStatement = some c_impl_isStatement := by kernel_rfl
theorem S_spec_l01Bit : compF Try.prog (Flags.mk [] [(0, [0]), (1, [3]), (2, [2]), (3, [2])] [] false) f_spec_l01Bit = some c_spec_l01Bit := by kernel_rfl
theorem S_spec_l02Plain : compF Try.prog (Flags.mk [] [(0, [0]), (1, [0, 3]), (2, [0, 3, 7]), (3, [0, 3]), (4, [0, 3, 15]), (5, [2]), (6, [2])] [(2, [0, 3])] false) f_spec_l02Plain = some c_spec_l02Plain := by kernel_rfl
theorem S_spec_l01Op : compF Try.prog (Flags.mk [] [(0, [0]), (1, [2])] [] false) f_spec_l01Op = some c_spec_l01Op := by kernel_rfl
theorem S_spec_l03Name : compF Try.prog (Flags.mk [] [(0, [0]), (1, [2])] [] false) f_spec_l03Name = some c_spec_l03Name := by kernel_rfl
theorem S_impl_printable : compF Try.prog (Flags.mk [] [(0, [0]), (1, [2])] [] false) f_impl_printable = some c_impl_printable := by kernel_rfl
theorem S_impl_NameOK : compF Try.prog (Flags.mk [] [(0, [0]), (1, [0, 12]), (2, [2]), (3, [0, 14, 15]), (4, [0, 14, 15, 16]), (5, [0, 3, 14, 15]), (6, [0, 14, 15, 29]), (7, [2]), (8, [0, 14, 15]), (9, [2])] [(4, [0, 14, 15])] false) f_impl_NameOK = some c_impl_NameOK := by kernel_rfl
theorem S_impl_WordOK : compF Try.prog (Flags.mk [] [(0, [0]), (1, [2])] [] false) f_impl_WordOK = some c_impl_WordOK := by kernel_rfl
theorem S_slices_IndexFunc_string : compF Try.prog (Flags.mk [] [(0, [0, 1]), (1, [0, 1, 7, 8]), (2, [0, 1, 7, 8, 9]), (3, [0, 1, 5, 7, 8]), (4, [0, 1, 5, 7, 8, 16]), (5, [4]), (6, [0, 1, 7, 8]), (7, [4])] [(2, [0, 1, 7, 8])] false) f_slices_IndexFunc_string = some c_slices_IndexFunc_string := by kernel_rfl
theorem S_strings_HasPrefix : compF Try.prog (Flags.mk [] [(0, [0, 1]), (1, [4])] [] false) f_strings_HasPrefix = some c_strings_HasPrefix := by kernel_rfl
theorem S_spec_NameOK : compF Try.prog (Flags.mk [] [(0, [0]), (1, [2])] [] false) f_spec_NameOK = some c_spec_NameOK := by kernel_rfl
theorem S_spec_WordOK : compF Try.prog (Flags.mk [] [(0, [0]), (1, [0, 7]), (2, [2]), (3, [0, 3]), (4, [0, 3, 4]), (5, [0, 3, 4, 12]), (6, [0, 3, 4]), (7, [0, 3, 4, 20]), (8, [2]), (9, [2])] [(5, [0, 3, 4])] false) f_spec_WordOK = some c_spec_WordOK := by kernel_rfl
theorem S_impl_run : compF Try.prog (Flags.mk [] [(0, [0, 1, 2]), (1, [0, 1, 2, 17]), (2, [0, 1, 2]), (3, [6])] [(1, [0, 1, 2])] false) f_impl_run = some c_impl_run := by kernel_rfl
theorem S_impl_printable_1 : compF Try.prog (Flags.mk [] [(0, [0]), (1, [2])] [] false) f_impl_printable_1 = some c_impl_printable_1 := by kernel_rfl
theorem S_impl_isDigit : compF Try.prog (Flags.mk [] [(0, [0]), (1, [2])] [] false) f_impl_isDigit = some c_impl_isDigit := by kernel_rfl
theorem S_impl_isLetter : compF Try.prog (Flags.mk [] [(0, [0]), (1, [2])] [] false) f_impl_isLetter = some c_impl_isLetter := by kernel_rfl
theorem S_impl_sourceWords : compF Try.prog (Flags.mk [] [(0, []), (1, [0])] [] false) f_impl_sourceWords = some c_impl_sourceWords := by kernel_rfl
theorem S_internal_stringslite_HasPrefix : compF Try.prog (Flags.mk [] [(0, [0, 1]), (1, [4])] [] false) f_internal_stringslite_HasPrefix = some c_internal_stringslite_HasPrefix := by kernel_rfl
theorem S_spec_l00Word : compF Try.prog (Flags.mk [] [(0, [0]), (1, [0, 17]), (2, [2]), (3, [0, 3]), (4, [0, 3, 21]), (5, [0, 3]), (6, [0, 3, 35]), (7, [2]), (8, [2])] [(4, [0, 3])] false) f_spec_l00Word = some c_spec_l00Word := by kernel_rfl
theorem S_spec_l02Words : compF Try.prog (Flags.mk [] [(0, []), (1, [0])] [] false) f_spec_l02Words = some c_spec_l02Words := by kernel_rfl
theorem S_spec_l00Letter : compF Try.prog (Flags.mk [] [(0, [0]), (1, [2])] [] false) f_spec_l00Letter = some c_spec_l00Letter := by kernel_rfl
theorem S_spec_l00Digit : compF Try.prog (Flags.mk [] [(0, [0]), (1, [2])] [] false) f_spec_l00Digit = some c_spec_l00Digit := by kernel_rfl
theorem CC_prog : ∀ f cf, CC f = some cf → ∃ fl, compF Try.prog fl f = some cf := by
  intro f cf h
  have key : ∀ x ∈ table, ∃ fl, compF Try.prog fl x.1 = some x.2 := by
    unfold table
    refine List.forall_mem_cons.2 ⟨⟨_, S_laws_FnExactComes⟩, ?_⟩
    refine List.forall_mem_cons.2 ⟨⟨_, S_laws_FnExactPathTo⟩, ?_⟩
    refine List.forall_mem_cons.2 ⟨⟨_, S_laws_FnExactScopeAt⟩, ?_⟩
    refine List.forall_mem_cons.2 ⟨⟨_, S_laws_FnExactCallsOf⟩, ?_⟩
    refine List.forall_mem_cons.2 ⟨⟨_, S_laws_szTree⟩, ?_⟩
    refine List.forall_mem_cons.2 ⟨⟨_, S_spec_Comes⟩, ?_⟩
    refine List.forall_mem_cons.2 ⟨⟨_, S_laws_toTree⟩, ?_⟩
    refine List.forall_mem_cons.2 ⟨⟨_, S_impl_Comes⟩, ?_⟩
    refine List.forall_mem_cons.2 ⟨⟨_, S_laws_eqTree⟩, ?_⟩
    refine List.forall_mem_cons.2 ⟨⟨_, S_spec_PathTo⟩, ?_⟩
    refine List.forall_mem_cons.2 ⟨⟨_, S_impl_PathTo⟩, ?_⟩
    refine List.forall_mem_cons.2 ⟨⟨_, S_laws_eqIntS⟩, ?_⟩
    refine List.forall_mem_cons.2 ⟨⟨_, S_laws_markTree⟩, ?_⟩
    refine List.forall_mem_cons.2 ⟨⟨_, S_laws_markIntS⟩, ?_⟩
    refine List.forall_mem_cons.2 ⟨⟨_, S_laws_heldIntS⟩, ?_⟩
    refine List.forall_mem_cons.2 ⟨⟨_, S_spec_ScopeAt⟩, ?_⟩
    refine List.forall_mem_cons.2 ⟨⟨_, S_impl_ScopeAt⟩, ?_⟩
    refine List.forall_mem_cons.2 ⟨⟨_, S_laws_eqStringS⟩, ?_⟩
    refine List.forall_mem_cons.2 ⟨⟨_, S_laws_markStringS⟩, ?_⟩
    refine List.forall_mem_cons.2 ⟨⟨_, S_laws_heldStringS⟩, ?_⟩
    refine List.forall_mem_cons.2 ⟨⟨_, S_spec_CallsOf⟩, ?_⟩
    refine List.forall_mem_cons.2 ⟨⟨_, S_impl_CallsOf⟩, ?_⟩
    refine List.forall_mem_cons.2 ⟨⟨_, S_laws_szNodeS⟩, ?_⟩
    refine List.forall_mem_cons.2 ⟨⟨_, S_spec_TreeOK⟩, ?_⟩
    refine List.forall_mem_cons.2 ⟨⟨_, S_spec_l04Func⟩, ?_⟩
    refine List.forall_mem_cons.2 ⟨⟨_, S_spec_l04Calls⟩, ?_⟩
    refine List.forall_mem_cons.2 ⟨⟨_, S_laws_toNodeS⟩, ?_⟩
    refine List.forall_mem_cons.2 ⟨⟨_, S_impl_TreeOK⟩, ?_⟩
    refine List.forall_mem_cons.2 ⟨⟨_, S_slices_Contains_string⟩, ?_⟩
    refine List.forall_mem_cons.2 ⟨⟨_, S_impl_Tree_funcNames⟩, ?_⟩
    refine List.forall_mem_cons.2 ⟨⟨_, S_impl_Tree_comes⟩, ?_⟩
    refine List.forall_mem_cons.2 ⟨⟨_, S_laws_eqNodeS⟩, ?_⟩
    refine List.forall_mem_cons.2 ⟨⟨_, S_spec_l03Place⟩, ?_⟩
    refine List.forall_mem_cons.2 ⟨⟨_, S_spec_l03Parent⟩, ?_⟩
    refine List.forall_mem_cons.2 ⟨⟨_, S_impl_askedNode⟩, ?_⟩
    refine List.forall_mem_cons.2 ⟨⟨_, S_impl_Tree_parent⟩, ?_⟩
    refine List.forall_mem_cons.2 ⟨⟨_, S_slices_Reverse_int⟩, ?_⟩
    refine List.forall_mem_cons.2 ⟨⟨_, S_laws_markNodeS⟩, ?_⟩
    refine List.forall_mem_cons.2 ⟨⟨_, S_spec_l01In⟩, ?_⟩
    refine List.forall_mem_cons.2 ⟨⟨_, S_spec_l04Start⟩, ?_⟩
    refine List.forall_mem_cons.2 ⟨⟨_, S_impl_askedScope⟩, ?_⟩
    refine List.forall_mem_cons.2 ⟨⟨_, S_impl_Tree_begins⟩, ?_⟩
    refine List.forall_mem_cons.2 ⟨⟨_, S_laws_markText⟩, ?_⟩
    refine List.forall_mem_cons.2 ⟨⟨_, S_impl_Tree_calls⟩, ?_⟩
    refine List.forall_mem_cons.2 ⟨⟨_, S_laws_szNode⟩, ?_⟩
    refine List.forall_mem_cons.2 ⟨⟨_, S_spec_l03Tree⟩, ?_⟩
    refine List.forall_mem_cons.2 ⟨⟨_, S_laws_toNode⟩, ?_⟩
    refine List.forall_mem_cons.2 ⟨⟨_, S_impl_within⟩, ?_⟩
    refine List.forall_mem_cons.2 ⟨⟨_, S_impl_checker_walk⟩, ?_⟩
    refine List.forall_mem_cons.2 ⟨⟨_, S_slices_Contains_bool⟩, ?_⟩
    refine List.forall_mem_cons.2 ⟨⟨_, S_slices_Index_string⟩, ?_⟩
    refine List.forall_mem_cons.2 ⟨⟨_, S_impl_Tree_functions⟩, ?_⟩
    refine List.forall_mem_cons.2 ⟨⟨_, S_laws_eqNode⟩, ?_⟩
    refine List.forall_mem_cons.2 ⟨⟨_, S_slices_IndexFunc_impl_Node⟩, ?_⟩
    refine List.forall_mem_cons.2 ⟨⟨_, S_impl_Tree_parent_1⟩, ?_⟩
    refine List.forall_mem_cons.2 ⟨⟨_, S_slices_Contains_int⟩, ?_⟩
    refine List.forall_mem_cons.2 ⟨⟨_, S_spec_l04Scope_bring⟩, ?_⟩
    refine List.forall_mem_cons.2 ⟨⟨_, S_slices_Clone_string⟩, ?_⟩
    refine List.forall_mem_cons.2 ⟨⟨_, S_laws_szStringS⟩, ?_⟩
    refine List.forall_mem_cons.2 ⟨⟨_, S_laws_szIntS⟩, ?_⟩
    refine List.forall_mem_cons.2 ⟨⟨_, S_spec_l03Look_walk⟩, ?_⟩
    refine List.forall_mem_cons.2 ⟨⟨_, S_laws_toStringS⟩, ?_⟩
    refine List.forall_mem_cons.2 ⟨⟨_, S_laws_toIntS⟩, ?_⟩
    refine List.forall_mem_cons.2 ⟨⟨_, S_impl_Node_fieldsOK⟩, ?_⟩
    refine List.forall_mem_cons.2 ⟨⟨_, S_impl_kidKinds⟩, ?_⟩
    refine List.forall_mem_cons.2 ⟨⟨_, S_impl_checker_fits⟩, ?_⟩
    refine List.forall_mem_cons.2 ⟨⟨_, S_slices_Index_bool⟩, ?_⟩
    refine List.forall_mem_cons.2 ⟨⟨_, S_slices_Index_int⟩, ?_⟩
    refine List.forall_mem_cons.2 ⟨⟨_, S_spec_l04Scope_fail⟩, ?_⟩
    refine List.forall_mem_cons.2 ⟨⟨_, S_spec_l03Expr⟩, ?_⟩
    refine List.forall_mem_cons.2 ⟨⟨_, S_spec_l03State⟩, ?_⟩
    refine List.forall_mem_cons.2 ⟨⟨_, S_spec_l03Kids⟩, ?_⟩
    refine List.forall_mem_cons.2 ⟨⟨_, S_spec_l03Node⟩, ?_⟩
    refine List.forall_mem_cons.2 ⟨⟨_, S_impl_Node_plain⟩, ?_⟩
    refine List.forall_mem_cons.2 ⟨⟨_, S_impl_wordText⟩, ?_⟩
    refine List.forall_mem_cons.2 ⟨⟨_, S_impl_isUnary⟩, ?_⟩
    refine List.forall_mem_cons.2 ⟨⟨_, S_impl_isBinary⟩, ?_⟩
    refine List.forall_mem_cons.2 ⟨⟨_, S_impl_identOK⟩, ?_⟩
    refine List.forall_mem_cons.2 ⟨⟨_, S_slices_ContainsFunc_string⟩, ?_⟩
    refine List.forall_mem_cons.2 ⟨⟨_, S_impl_Node_fieldsOK_1⟩, ?_⟩
    refine List.forall_mem_cons.2 ⟨⟨_, S_impl_isExpression⟩, ?_⟩
    refine List.forall_mem_cons.2 ⟨⟨_, S_impl_isStatement⟩, ?_⟩
    refine List.forall_mem_cons.2 ⟨⟨_, S_spec_l01Bit⟩, ?_⟩
    refine List.forall_mem_cons.2 ⟨⟨_, S_spec_l02Plain⟩, ?_⟩
    refine List.forall_mem_cons.2 ⟨⟨_, S_spec_l01Op⟩, ?_⟩
    refine List.forall_mem_cons.2 ⟨⟨_, S_spec_l03Name⟩, ?_⟩
    refine List.forall_mem_cons.2 ⟨⟨_, S_impl_printable⟩, ?_⟩
    refine List.forall_mem_cons.2 ⟨⟨_, S_impl_NameOK⟩, ?_⟩
    refine List.forall_mem_cons.2 ⟨⟨_, S_impl_WordOK⟩, ?_⟩
    refine List.forall_mem_cons.2 ⟨⟨_, S_slices_IndexFunc_string⟩, ?_⟩
    refine List.forall_mem_cons.2 ⟨⟨_, S_strings_HasPrefix⟩, ?_⟩
    refine List.forall_mem_cons.2 ⟨⟨_, S_spec_NameOK⟩, ?_⟩
    refine List.forall_mem_cons.2 ⟨⟨_, S_spec_WordOK⟩, ?_⟩
    refine List.forall_mem_cons.2 ⟨⟨_, S_impl_run⟩, ?_⟩
    refine List.forall_mem_cons.2 ⟨⟨_, S_impl_printable_1⟩, ?_⟩
    refine List.forall_mem_cons.2 ⟨⟨_, S_impl_isDigit⟩, ?_⟩
    refine List.forall_mem_cons.2 ⟨⟨_, S_impl_isLetter⟩, ?_⟩
    refine List.forall_mem_cons.2 ⟨⟨_, S_impl_sourceWords⟩, ?_⟩
    refine List.forall_mem_cons.2 ⟨⟨_, S_internal_stringslite_HasPrefix⟩, ?_⟩
    refine List.forall_mem_cons.2 ⟨⟨_, S_spec_l00Word⟩, ?_⟩
    refine List.forall_mem_cons.2 ⟨⟨_, S_spec_l02Words⟩, ?_⟩
    refine List.forall_mem_cons.2 ⟨⟨_, S_spec_l00Letter⟩, ?_⟩
    refine List.forall_mem_cons.2 ⟨⟨_, S_spec_l00Digit⟩, ?_⟩
    intro x hx; cases hx
  exact key _ (lk_mem h)
theorem mixed : Try.prog.follows .mixedOrders = true := by kernel_rfl
end Go.X
