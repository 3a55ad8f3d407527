/- Printed by gencf.py (mine): the resolved functions are the program's. -/
import Derived.Test.YtiiiciekknpoeaaDoorXC1
import Derived.Test.YtiiiciekknpoeaaDoorProg
import Derived.KernelRfl
namespace Go.X
open Go Go.Proofs
set_option maxRecDepth 100000
theorem S_laws_FnExactTokenText : compF Tryd.prog (Flags.mk [1] [(0, [1]), (1, [1, 3]), (2, [1, 3]), (3, [1, 12]), (4, [2]), (5, [1, 4, 5]), (6, [4, 5, 6, 7]), (7, [32]), (8, [2]), (9, [2])] [] false) f_laws_FnExactTokenText = some c_laws_FnExactTokenText := by kernel_rfl
theorem S_laws_FnExactLexSource : compF Tryd.prog (Flags.mk [] [(0, [0]), (1, [0, 16]), (2, [2]), (3, [0, 3, 4, 5]), (4, [0, 3, 4, 5, 6, 7, 8]), (5, [0, 3, 4, 5, 6, 42]), (6, [2]), (7, [0, 3, 4, 5, 6, 9]), (8, [0, 3, 4, 5, 6, 9]), (9, [0, 3, 4, 5, 6, 9, 10]), (10, [0, 3, 4, 5, 6, 9, 10]), (11, [0, 3, 4, 5, 6, 9, 10, 50]), (12, [2]), (13, [0, 3, 4, 5, 6, 9, 53]), (14, [2]), (15, [3, 4, 5, 6, 9, 11, 12, 13]), (16, [6, 9, 73]), (17, [2]), (18, [6, 9, 10]), (19, [9, 10]), (20, [9, 10, 78]), (21, [2]), (22, [81]), (23, [2]), (24, [2])] [] false) f_laws_FnExactLexSource = some c_laws_FnExactLexSource := by kernel_rfl
theorem S_laws_FnWords : compF Tryd.prog (Flags.mk [5, 16, 18] [(0, [0, 1]), (1, [0, 29]), (2, [4]), (3, [5]), (4, [5, 6, 7]), (5, [5, 6, 7, 8]), (6, [5, 6, 7, 8, 10, 11]), (7, [5, 6, 7, 8, 10, 11, 12]), (8, [5, 6, 8, 67]), (9, [4]), (10, [5, 6, 8, 70]), (11, [5, 8, 14, 15]), (12, [5, 8, 14, 15, 78]), (13, [4]), (14, [5, 6, 8]), (15, [5, 8, 16, 17]), (16, [5, 8, 16, 17, 18, 19]), (17, [5, 8, 16, 17, 18, 19, 20, 21]), (18, [4])] [] false) f_laws_FnWords = some c_laws_FnWords := by kernel_rfl
theorem S_laws_FnExactJoinTokens : compF Tryd.prog (Flags.mk [] [(0, [0]), (1, [0, 3]), (2, [0, 3]), (3, [0, 13]), (4, [2]), (5, [0, 4, 5]), (6, [0, 4, 5, 6]), (7, [0, 4, 5, 6, 7, 8]), (8, [0, 6, 34]), (9, [2]), (10, [39]), (11, [2]), (12, [2])] [] false) f_laws_FnExactJoinTokens = some c_laws_FnExactJoinTokens := by kernel_rfl
theorem S_laws_szToken : compF Tryd.prog (Flags.mk [2] [(0, [1, 2]), (1, [1]), (2, [1, 11]), (3, [4]), (4, [4])] [] false) f_laws_szToken = some c_laws_szToken := by kernel_rfl
theorem S_spec_TokenText : compF Tryd.prog (Flags.mk [1] [(0, [1]), (1, [1, 6]), (2, [2, 3]), (3, [2, 3])] [] false) f_spec_TokenText = some c_spec_TokenText := by kernel_rfl
theorem S_laws_toToken : compF Tryd.prog (Flags.mk [1, 2, 3] [(0, [1, 2]), (1, [1, 2, 3]), (2, [1, 2, 3]), (3, [1, 2, 3]), (4, [2, 3]), (5, [2])] [] false) f_laws_toToken = some c_laws_toToken := by kernel_rfl
theorem S_impl_TokenText : compF Tryd.prog (Flags.mk [1] [(0, [1]), (1, [4, 5]), (2, [4, 12]), (3, [2, 3]), (4, [2, 3])] [] false) f_impl_TokenText = some c_impl_TokenText := by kernel_rfl
theorem S_spec_LexSource : compF Tryd.prog (Flags.mk [] [(0, [0]), (1, [0, 7]), (2, [2, 3, 4]), (3, [0, 11]), (4, [2, 3, 4]), (5, [2, 3, 4])] [] false) f_spec_LexSource = some c_spec_LexSource := by kernel_rfl
theorem S_impl_LexSource : compF Tryd.prog (Flags.mk [7, 44] [(0, [0]), (1, [0, 10]), (2, [2, 3, 4]), (3, [0, 14]), (4, [2, 3, 4]), (5, [0, 5]), (6, [0, 5, 6]), (7, [0, 5, 6, 24]), (8, [0, 5, 6]), (9, [0, 5, 6, 30]), (10, [2, 3, 4]), (11, [0, 5, 6, 7, 8, 9]), (12, [0, 5, 6, 7, 8, 40]), (13, [2, 3, 4]), (14, [0, 5, 8]), (15, [0, 5, 6]), (16, [2, 3, 4])] [(7, [0, 5, 6])] false) f_impl_LexSource = some c_impl_LexSource := by kernel_rfl
theorem S_laws_eqTokenS : compF Tryd.prog (Flags.mk [] [(0, [0, 1]), (1, [0, 1, 10]), (2, [4]), (3, [0, 1, 5]), (4, [0, 1, 5, 14]), (5, [0, 1, 5]), (6, [0, 1, 5, 26]), (7, [4]), (8, [4])] [(4, [0, 1, 5])] false) f_laws_eqTokenS = some c_laws_eqTokenS := by kernel_rfl
theorem S_laws_markTokenS : compF Tryd.prog (Flags.mk [] [(0, [0, 1]), (1, [0, 1, 5]), (2, [0, 1, 5, 9]), (3, [0, 1, 5]), (4, [0, 1, 5]), (5, [0, 1, 5]), (6, [0, 1, 5]), (7, [0, 1, 5]), (8, [0, 1, 5]), (9, [0, 1, 5]), (10, [4])] [(2, [0, 1, 5])] false) f_laws_markTokenS = some c_laws_markTokenS := by kernel_rfl
theorem S_laws_heldTokenS : compF Tryd.prog (Flags.mk [] [(0, [0, 1]), (1, [0, 1, 5]), (2, [0, 1, 5, 9]), (3, [0, 1, 5]), (4, [0, 1, 5, 18]), (5, [4]), (6, [0, 1, 5]), (7, [0, 1, 5, 27]), (8, [4]), (9, [0, 1, 5]), (10, [0, 1, 5, 37]), (11, [4]), (12, [0, 1, 5]), (13, [4])] [(2, [0, 1, 5])] false) f_laws_heldTokenS = some c_laws_heldTokenS := by kernel_rfl
theorem S_spec_ValueOf : compF Tryd.prog (Flags.mk [2] [(0, [0, 2]), (1, [2])] [] false) f_spec_ValueOf = some c_spec_ValueOf := by kernel_rfl
theorem S_impl_ValueText : compF Tryd.prog (Flags.mk [1] [(0, [1]), (1, [1, 6]), (2, [2, 3]), (3, [2, 3])] [] false) f_impl_ValueText = some c_impl_ValueText := by kernel_rfl
theorem S_spec_ValueText : compF Tryd.prog (Flags.mk [1] [(0, [1]), (1, [1, 6]), (2, [2, 3]), (3, [2, 3])] [] false) f_spec_ValueText = some c_spec_ValueText := by kernel_rfl
theorem S_impl_KindWord : compF Tryd.prog (Flags.mk [1] [(0, [1]), (1, [1, 6]), (2, [2, 3]), (3, [2, 3])] [] false) f_impl_KindWord = some c_impl_KindWord := by kernel_rfl
theorem S_spec_KindWord : compF Tryd.prog (Flags.mk [1] [(0, [1]), (1, [1, 6]), (2, [2, 3]), (3, [2, 3])] [] false) f_spec_KindWord = some c_spec_KindWord := by kernel_rfl
theorem S_impl_QuoteText : compF Tryd.prog (Flags.mk [] [(0, [0]), (1, [0, 4]), (2, [2, 3]), (3, [0, 8]), (4, [2, 3]), (5, [2, 3])] [] false) f_impl_QuoteText = some c_impl_QuoteText := by kernel_rfl
theorem S_impl_ReadValue : compF Tryd.prog (Flags.mk [2] [(0, [0, 2]), (1, [0, 2, 11]), (2, [2, 3]), (3, [0, 2, 13]), (4, [0, 2, 13, 14]), (5, [2, 3]), (6, [0, 2, 13, 17]), (7, [0, 2, 17]), (8, [2, 3]), (9, [0, 2, 4, 5]), (10, [0, 2, 4, 28]), (11, [2, 4, 31]), (12, [2, 3]), (13, [2, 3]), (14, [0, 2, 6, 7, 8]), (15, [2, 6, 47]), (16, [2, 3]), (17, [2, 3])] [] false) f_impl_ReadValue = some c_impl_ReadValue := by kernel_rfl
theorem S_impl_Builtin : compF Tryd.prog (Flags.mk [4] [(0, [0, 1, 4]), (1, [0, 1, 4, 6, 7]), (2, [0, 1, 4, 6, 7, 13]), (3, [4, 5]), (4, [0, 1, 4, 6, 7, 23]), (5, [4, 5]), (6, [0, 1, 4, 6, 28]), (7, [4, 5]), (8, [0, 1, 4, 32]), (9, [4, 5]), (10, [4, 5])] [] false) f_impl_Builtin = some c_impl_Builtin := by kernel_rfl
theorem S_impl_BuiltinCount : compF Tryd.prog (Flags.mk [] [(0, [0]), (1, [0, 8]), (2, [2, 3]), (3, [4, 5]), (4, [4, 15]), (5, [2, 3]), (6, [2, 3])] [] false) f_impl_BuiltinCount = some c_impl_BuiltinCount := by kernel_rfl
theorem S_laws_szTokenS : compF Tryd.prog (Flags.mk [] [(0, [0, 1]), (1, [0, 1]), (2, [0, 1, 11]), (3, [4]), (4, [0, 1, 5]), (5, [0, 1, 5, 15]), (6, [0, 1, 5]), (7, [0, 1, 5]), (8, [0, 1, 5, 25]), (9, [4]), (10, [4])] [(5, [0, 1, 5])] false) f_laws_szTokenS = some c_laws_szTokenS := by kernel_rfl
theorem S_spec_JoinTokens : compF Tryd.prog (Flags.mk [31] [(0, [0]), (1, [0, 8]), (2, [2, 3]), (3, [0, 11]), (4, [2, 3]), (5, [0, 4]), (6, [0, 4, 5]), (7, [0, 4, 5, 16]), (8, [0, 4, 5]), (9, [0, 4, 5, 24]), (10, [2, 3]), (11, [0, 4, 5]), (12, [2, 3])] [(7, [0, 4, 5])] false) f_spec_JoinTokens = some c_spec_JoinTokens := by kernel_rfl
theorem S_laws_toTokenS : compF Tryd.prog (Flags.mk [] [(0, [0]), (1, [0, 3]), (2, [0, 3, 4]), (3, [0, 3, 4, 11]), (4, [0, 3, 4]), (5, [0, 3, 4]), (6, [2])] [(3, [0, 3, 4])] false) f_laws_toTokenS = some c_laws_toTokenS := by kernel_rfl
theorem S_impl_JoinTokens : compF Tryd.prog (Flags.mk [6, 33] [(0, [0]), (1, [0, 9]), (2, [2, 3]), (3, [0, 13]), (4, [2, 3]), (5, [0, 4]), (6, [4, 18, 19, 20]), (7, [4, 18, 19, 20, 21]), (8, [4, 6, 18, 19, 20]), (9, [4, 7, 8, 18, 19, 20]), (10, [4, 7, 18, 19, 20, 30]), (11, [2, 3]), (12, [4, 18, 19, 20]), (13, [4, 18, 19, 20]), (14, [2, 3])] [(7, [4, 18, 19, 20])] false) f_impl_JoinTokens = some c_impl_JoinTokens := by kernel_rfl
theorem S_spec_l02Token : compF Tryd.prog (Flags.mk [1] [(0, [1]), (1, [1, 6]), (2, [1, 6, 7]), (3, [2]), (4, [1, 6, 24]), (5, [2]), (6, [1, 6, 29]), (7, [1, 3, 4]), (8, [2]), (9, [1, 6, 49]), (10, [2]), (11, [1, 54]), (12, [1, 59]), (13, [2]), (14, [2]), (15, [2])] [] false) f_spec_l02Token = some c_spec_l02Token := by kernel_rfl
theorem S_spec_l02TokenText : compF Tryd.prog (Flags.mk [1] [(0, [1]), (1, [1, 5]), (2, [2]), (3, [2])] [] false) f_spec_l02TokenText = some c_spec_l02TokenText := by kernel_rfl
theorem S_impl_tokenText : compF Tryd.prog (Flags.mk [1] [(0, [1]), (1, [1, 5]), (2, [1, 5, 6]), (3, [2, 3]), (4, [1, 5, 13]), (5, [2, 3]), (6, [1, 5, 20]), (7, [2, 3]), (8, [1, 5, 27]), (9, [2, 3]), (10, [1, 35]), (11, [2, 3]), (12, [2, 3])] [] false) f_impl_tokenText = some c_impl_tokenText := by kernel_rfl
theorem S_spec_l02Lex : compF Tryd.prog (Flags.mk [8, 49] [(0, [0]), (1, [0, 5]), (2, [0, 5, 6]), (3, [0, 5, 6, 15]), (4, [0, 5, 6, 7]), (5, [0, 5, 6, 28]), (6, [0, 5, 6]), (7, [0, 5, 6, 33]), (8, [2, 3, 4]), (9, [0, 5, 6, 8, 9, 10]), (10, [0, 5, 6, 8, 9, 44]), (11, [2, 3, 4]), (12, [0, 5, 9]), (13, [0, 5, 6]), (14, [2, 3, 4])] [(3, [0, 5, 6])] false) f_spec_l02Lex = some c_spec_l02Lex := by kernel_rfl
theorem S_impl_run : compF Tryd.prog (Flags.mk [] [(0, [0, 1, 2]), (1, [0, 1, 2, 17]), (2, [0, 1, 2]), (3, [6])] [(1, [0, 1, 2])] false) f_impl_run = some c_impl_run := by kernel_rfl
theorem S_impl_isBlank : compF Tryd.prog (Flags.mk [] [(0, [0]), (1, [2])] [] false) f_impl_isBlank = some c_impl_isBlank := by kernel_rfl
theorem S_impl_token : compF Tryd.prog (Flags.mk [4] [(0, [0, 1, 4]), (1, [0, 1, 4, 7]), (2, [0, 1, 4, 7, 18]), (3, [0, 1, 4, 8]), (4, [1, 4, 8, 9]), (5, [1, 4, 8, 9, 29]), (6, [4, 5, 6]), (7, [4, 5, 6]), (8, [0, 1, 4, 7, 40]), (9, [0, 1, 4, 10]), (10, [4, 5, 6]), (11, [0, 1, 4, 58]), (12, [1, 4, 11, 12, 13]), (13, [4, 5, 6]), (14, [1, 4, 14]), (15, [4, 5, 6])] [] false) f_impl_token = some c_impl_token := by kernel_rfl
theorem S_laws_eqToken : compF Tryd.prog (Flags.mk [2, 3] [(0, [2, 3]), (1, [2, 3, 9]), (2, [4]), (3, [2, 3, 14]), (4, [4]), (5, [19]), (6, [4]), (7, [4])] [] false) f_laws_eqToken = some c_laws_eqToken := by kernel_rfl
theorem S_laws_markText : compF Tryd.prog (Flags.mk [] [(0, [0]), (1, [0, 5]), (2, [2]), (3, [0, 3]), (4, [0, 3, 7]), (5, [0, 3]), (6, [0, 3]), (7, [2])] [(4, [0, 3])] true) f_laws_markText = some c_laws_markText := by kernel_rfl
theorem S_spec_l00Source : compF Tryd.prog (Flags.mk [] [(0, [0]), (1, [2])] [] false) f_spec_l00Source = some c_spec_l00Source := by kernel_rfl
theorem S_spec_l00Src_value : compF Tryd.prog (Flags.mk [2] [(0, [0, 2]), (1, [0, 2, 4]), (2, [0, 2, 4, 5]), (3, [2]), (4, [0, 2, 4, 8]), (5, [2]), (6, [0, 2, 4, 13]), (7, [0, 2, 4, 13]), (8, [2]), (9, [0, 2, 22]), (10, [2]), (11, [2])] [] false) f_spec_l00Src_value = some c_spec_l00Src_value := by kernel_rfl
theorem S_impl_ValueOK : compF Tryd.prog (Flags.mk [1] [(0, [1]), (1, [1, 4]), (2, [1, 4, 5]), (3, [2]), (4, [1, 4, 10]), (5, [2]), (6, [1, 4, 20]), (7, [2]), (8, [1, 30]), (9, [2]), (10, [2])] [] false) f_impl_ValueOK = some c_impl_ValueOK := by kernel_rfl
theorem S_impl_valueText : compF Tryd.prog (Flags.mk [1] [(0, [1]), (1, [1, 4]), (2, [1, 4, 5]), (3, [2]), (4, [1, 4, 7]), (5, [2]), (6, [1, 12]), (7, [2]), (8, [2])] [] false) f_impl_valueText = some c_impl_valueText := by kernel_rfl
theorem S_spec_ValueOK : compF Tryd.prog (Flags.mk [1] [(0, [1]), (1, [1, 4]), (2, [1, 4, 5]), (3, [2]), (4, [1, 4, 15]), (5, [2]), (6, [1, 4, 25]), (7, [2]), (8, [1, 35]), (9, [2]), (10, [2])] [] false) f_spec_ValueOK = some c_spec_ValueOK := by kernel_rfl
theorem S_spec_l01ValueText : compF Tryd.prog (Flags.mk [1] [(0, [1]), (1, [1, 4]), (2, [1, 4, 5]), (3, [2]), (4, [1, 4, 10]), (5, [14]), (6, [2]), (7, [2]), (8, [1, 15]), (9, [2]), (10, [2])] [] false) f_spec_l01ValueText = some c_spec_l01ValueText := by kernel_rfl
theorem S_impl_wordText : compF Tryd.prog (Flags.mk [] [(0, [0]), (1, [2])] [] false) f_impl_wordText = some c_impl_wordText := by kernel_rfl
theorem S_impl_quoteText : compF Tryd.prog (Flags.mk [21, 25, 29] [(0, [0]), (1, [0, 3]), (2, [3, 8, 9, 10]), (3, [3, 8, 9, 10, 11]), (4, [3, 5, 8, 9, 10]), (5, [3, 5, 8, 9, 10, 19]), (6, [3, 5, 8, 9, 10]), (7, [3, 8, 9, 10]), (8, [3, 8, 9, 10]), (9, [2])] [(3, [3, 8, 9, 10])] false) f_impl_quoteText = some c_impl_quoteText := by kernel_rfl
theorem S_impl_ofBool : compF Tryd.prog (Flags.mk [2] [(0, [0, 2]), (1, [2, 3]), (2, [2]), (3, [2])] [] false) f_impl_ofBool = some c_impl_ofBool := by kernel_rfl
theorem S_impl_number : compF Tryd.prog (Flags.mk [] [(0, [0]), (1, [0, 4, 5]), (2, [2, 3])] [] false) f_impl_number = some c_impl_number := by kernel_rfl
theorem S_impl_within : compF Tryd.prog (Flags.mk [] [(0, [0, 1, 2]), (1, [6])] [] false) f_impl_within = some c_impl_within := by kernel_rfl
theorem S_impl_ofInt : compF Tryd.prog (Flags.mk [2] [(0, [0, 2]), (1, [2])] [] false) f_impl_ofInt = some c_impl_ofInt := by kernel_rfl
theorem S_impl_quoted : compF Tryd.prog (Flags.mk [75] [(0, [0, 1]), (1, [0, 1, 19]), (2, [4, 5, 6]), (3, [0, 1, 7]), (4, [0, 7, 8]), (5, [0, 7, 8, 26]), (6, [0, 7, 8]), (7, [0, 7, 8, 9]), (8, [0, 7, 8, 9, 32]), (9, [4, 5, 6]), (10, [0, 7, 8, 9, 42]), (11, [0, 7, 8]), (12, [0, 7, 8, 62]), (13, [4, 5, 6]), (14, [0, 7, 8, 9]), (15, [0, 7, 8, 9, 66]), (16, [4, 5, 6]), (17, [0, 7, 8]), (18, [4, 5, 6])] [(5, [0, 7, 8])] false) f_impl_quoted = some c_impl_quoted := by kernel_rfl
theorem S_impl_ofText : compF Tryd.prog (Flags.mk [2] [(0, [0, 2]), (1, [2])] [] false) f_impl_ofText = some c_impl_ofText := by kernel_rfl
theorem S_impl_builtinKinds : compF Tryd.prog (Flags.mk [] [(0, [0]), (1, [4]), (2, [4, 5]), (3, [2, 3]), (4, [4, 8]), (5, [2, 3]), (6, [4, 11]), (7, [2, 3]), (8, [4, 14]), (9, [2, 3]), (10, [4, 17]), (11, [4, 17]), (12, [2, 3]), (13, [21]), (14, [2, 3]), (15, [2, 3])] [] false) f_impl_builtinKinds = some c_impl_builtinKinds := by kernel_rfl
theorem S_impl_valuesOK : compF Tryd.prog (Flags.mk [] [(0, [0]), (1, [2])] [] false) f_impl_valuesOK = some c_impl_valuesOK := by kernel_rfl
theorem S_impl_builtin : compF Tryd.prog (Flags.mk [4, 10] [(0, [0, 1, 4]), (1, [0, 1, 4, 6]), (2, [0, 1, 4, 18, 19, 20]), (3, [0, 1, 4, 18, 19, 20, 21]), (4, [0, 1, 4, 8, 9, 18, 19, 20]), (5, [0, 1, 4, 18, 19, 20, 35]), (6, [4, 5]), (7, [0, 1, 4, 18, 19, 20]), (8, [0, 1, 4, 10]), (9, [1, 4, 10, 41]), (10, [1, 4, 10, 41, 42]), (11, [4, 5]), (12, [1, 4, 10, 41, 48]), (13, [4, 5]), (14, [1, 4, 10, 41, 53]), (15, [4, 5]), (16, [1, 4, 10, 41, 64]), (17, [4, 5]), (18, [1, 4, 10, 41, 74]), (19, [4, 5]), (20, [1, 4, 10, 84]), (21, [1, 4, 10, 95]), (22, [4, 5]), (23, [4, 5]), (24, [4, 10, 11, 12]), (25, [4, 10, 11, 12, 128]), (26, [4, 5]), (27, [4, 5])] [(3, [0, 1, 4, 18, 19, 20])] false) f_impl_builtin = some c_impl_builtin := by kernel_rfl
theorem S_spec_l00Join : compF Tryd.prog (Flags.mk [] [(0, [0, 1]), (1, [0, 1, 5]), (2, [0, 1, 5, 6]), (3, [0, 1, 5, 6, 10]), (4, [0, 1, 5, 6]), (5, [0, 1, 5, 6, 14]), (6, [0, 1, 5, 6]), (7, [0, 1, 5, 6]), (8, [4])] [(3, [0, 1, 5, 6])] false) f_spec_l00Join = some c_spec_l00Join := by kernel_rfl
theorem S_spec_NameOK : compF Tryd.prog (Flags.mk [] [(0, [0]), (1, [2])] [] false) f_spec_NameOK = some c_spec_NameOK := by kernel_rfl
theorem S_spec_WordOK : compF Tryd.prog (Flags.mk [] [(0, [0]), (1, [0, 7]), (2, [2]), (3, [0, 3]), (4, [0, 3, 4]), (5, [0, 3, 4, 12]), (6, [0, 3, 4]), (7, [0, 3, 4, 20]), (8, [2]), (9, [2])] [(5, [0, 3, 4])] false) f_spec_WordOK = some c_spec_WordOK := by kernel_rfl
theorem S_spec_l00Number : compF Tryd.prog (Flags.mk [] [(0, [0]), (1, [0, 4]), (2, [0, 4, 14]), (3, [0, 4]), (4, [0, 4]), (5, [0, 4, 38]), (6, [2, 3]), (7, [0, 4, 5]), (8, [0, 4, 5, 6]), (9, [0, 4, 5, 6, 42]), (10, [0, 4, 5, 6]), (11, [0, 4, 5, 6, 54]), (12, [2, 3]), (13, [0, 4, 5, 6]), (14, [2, 3])] [(9, [0, 4, 5, 6])] false) f_spec_l00Number = some c_spec_l00Number := by kernel_rfl
theorem S_spec_l01In : compF Tryd.prog (Flags.mk [] [(0, [0, 1, 2]), (1, [6])] [] false) f_spec_l01In = some c_spec_l01In := by kernel_rfl
theorem S_spec_l00Digits : compF Tryd.prog (Flags.mk [] [(0, [0]), (1, [0, 4]), (2, [2]), (3, [0, 6]), (4, [2]), (5, [0, 12]), (6, [2]), (7, [2])] [] true) f_spec_l00Digits = some c_spec_l00Digits := by kernel_rfl
theorem S_spec_l02Plain : compF Tryd.prog (Flags.mk [] [(0, [0]), (1, [0, 3]), (2, [0, 3, 7]), (3, [0, 3]), (4, [0, 3, 15]), (5, [2]), (6, [2])] [(2, [0, 3])] false) f_spec_l02Plain = some c_spec_l02Plain := by kernel_rfl
theorem S_spec_l02Sign : compF Tryd.prog (Flags.mk [] [(0, [0]), (1, [0, 3]), (2, [0, 3, 5]), (3, [0, 3]), (4, [0, 3, 11]), (5, [2]), (6, [2])] [(2, [0, 3])] false) f_spec_l02Sign = some c_spec_l02Sign := by kernel_rfl
theorem S_spec_l02Quote : compF Tryd.prog (Flags.mk [23, 29, 32] [(0, [0]), (1, [0, 3]), (2, [0, 3, 4]), (3, [0, 3, 4, 9]), (4, [0, 3, 4]), (5, [0, 3, 4, 21]), (6, [0, 3, 4]), (7, [0, 3, 4]), (8, [2])] [(3, [0, 3, 4])] false) f_spec_l02Quote = some c_spec_l02Quote := by kernel_rfl
theorem S_impl_identOK : compF Tryd.prog (Flags.mk [] [(0, [0]), (1, [2])] [] false) f_impl_identOK = some c_impl_identOK := by kernel_rfl
theorem S_impl_WordOK : compF Tryd.prog (Flags.mk [] [(0, [0]), (1, [2])] [] false) f_impl_WordOK = some c_impl_WordOK := by kernel_rfl
theorem S_impl_intOK : compF Tryd.prog (Flags.mk [] [(0, [0]), (1, [3, 4]), (2, [2])] [] false) f_impl_intOK = some c_impl_intOK := by kernel_rfl
theorem S_impl_isSign : compF Tryd.prog (Flags.mk [] [(0, [0]), (1, [2])] [] false) f_impl_isSign = some c_impl_isSign := by kernel_rfl
theorem S_spec_l02Next : compF Tryd.prog (Flags.mk [4, 146] [(0, [0, 1, 4]), (1, [0, 1, 4, 7]), (2, [0, 1, 4, 7, 8]), (3, [0, 1, 4, 7, 8, 18]), (4, [0, 1, 4, 8, 36]), (5, [0, 1, 4, 8]), (6, [0, 1, 4, 8, 42]), (7, [4, 5, 6]), (8, [0, 1, 4, 8, 9]), (9, [0, 1, 4, 8, 9, 49]), (10, [0, 1, 4, 8, 9]), (11, [4, 5, 6]), (12, [0, 1, 4, 7, 8, 58]), (13, [0, 1, 4, 8, 70]), (14, [0, 1, 4, 8]), (15, [0, 1, 4, 8, 10, 11]), (16, [0, 1, 4, 8, 86]), (17, [4, 5, 6]), (18, [4, 5, 6]), (19, [0, 1, 4, 7, 8, 96]), (20, [0, 1, 4, 8, 12]), (21, [0, 1, 4, 8, 12, 109]), (22, [0, 1, 4, 8, 12, 113]), (23, [0, 1, 4, 8, 12]), (24, [0, 1, 4, 8, 12, 131]), (25, [4, 5, 6]), (26, [0, 1, 4, 8, 12, 139]), (27, [4, 5, 6]), (28, [0, 1, 4, 8, 12]), (29, [0, 1, 4, 8, 12]), (30, [1, 4, 8, 12, 158]), (31, [4, 5, 6]), (32, [4, 5, 6]), (33, [0, 1, 4, 7, 8, 167]), (34, [0, 1, 4, 7, 8, 203]), (35, [0, 1, 4, 8]), (36, [0, 1, 4, 8, 211]), (37, [4, 5, 6]), (38, [4, 5, 6]), (39, [4, 5, 6])] [(4, [0, 1, 4, 8]), (13, [0, 1, 4, 8]), (21, [0, 1, 4, 8, 12])] false) f_spec_l02Next = some c_spec_l02Next := by kernel_rfl
theorem S_impl_isLetter : compF Tryd.prog (Flags.mk [] [(0, [0]), (1, [2])] [] false) f_impl_isLetter = some c_impl_isLetter := by kernel_rfl
theorem S_impl_identByte : compF Tryd.prog (Flags.mk [] [(0, [0]), (1, [2])] [] false) f_impl_identByte = some c_impl_identByte := by kernel_rfl
theorem S_impl_isDigit : compF Tryd.prog (Flags.mk [] [(0, [0]), (1, [2])] [] false) f_impl_isDigit = some c_impl_isDigit := by kernel_rfl
theorem S_impl_sign : compF Tryd.prog (Flags.mk [] [(0, [0, 1]), (1, [0, 1, 7, 8, 9]), (2, [0, 1, 7, 8, 9, 10]), (3, [0, 1, 6, 7, 8, 9]), (4, [0, 1, 6, 7, 8, 9, 17]), (5, [4]), (6, [0, 1, 7, 8, 9]), (7, [0, 1, 24]), (8, [4]), (9, [4])] [(2, [0, 1, 7, 8, 9])] false) f_impl_sign = some c_impl_sign := by kernel_rfl
theorem S_spec_l00Src_next : compF Tryd.prog (Flags.mk [] [(0, [0, 1]), (1, [0, 1, 9]), (2, [4]), (3, [0, 1, 11]), (4, [4]), (5, [0, 1, 5]), (6, [0, 1, 5, 6]), (7, [1, 5, 6, 7]), (8, [4])] [] false) f_spec_l00Src_next = some c_spec_l00Src_next := by kernel_rfl
theorem S_spec_l01Bool : compF Tryd.prog (Flags.mk [2] [(0, [0, 2]), (1, [2])] [] false) f_spec_l01Bool = some c_spec_l01Bool := by kernel_rfl
theorem S_spec_l00Src_chance : compF Tryd.prog (Flags.mk [] [(0, [0, 1]), (1, [4])] [] false) f_spec_l00Src_chance = some c_spec_l00Src_chance := by kernel_rfl
theorem S_spec_l01Text : compF Tryd.prog (Flags.mk [2] [(0, [0, 2]), (1, [2])] [] false) f_spec_l01Text = some c_spec_l01Text := by kernel_rfl
theorem S_spec_l00Src_pick : compF Tryd.prog (Flags.mk [] [(0, [0, 1]), (1, [0, 1, 7]), (2, [4]), (3, [4])] [] false) f_spec_l00Src_pick = some c_spec_l00Src_pick := by kernel_rfl
theorem S_spec_l01Int : compF Tryd.prog (Flags.mk [2] [(0, [0, 2]), (1, [2])] [] false) f_spec_l01Int = some c_spec_l01Int := by kernel_rfl
theorem S_strconv_FormatBool : compF Tryd.prog (Flags.mk [] [(0, [0]), (1, [2])] [] false) f_strconv_FormatBool = some c_strconv_FormatBool := by kernel_rfl
theorem S_impl_printable : compF Tryd.prog (Flags.mk [] [(0, [0]), (1, [2])] [] false) f_impl_printable = some c_impl_printable := by kernel_rfl
theorem S_strings_TrimPrefix : compF Tryd.prog (Flags.mk [] [(0, [0, 1]), (1, [4])] [] false) f_strings_TrimPrefix = some c_strings_TrimPrefix := by kernel_rfl
theorem S_slices_ContainsFunc_impl_Value : compF Tryd.prog (Flags.mk [] [(0, [0, 1]), (1, [4])] [] false) f_slices_ContainsFunc_impl_Value = some c_slices_ContainsFunc_impl_Value := by kernel_rfl
theorem S_impl_valuesOK_1 : compF Tryd.prog (Flags.mk [1] [(0, [1]), (1, [2])] [] false) f_impl_valuesOK_1 = some c_impl_valuesOK_1 := by kernel_rfl
theorem S_impl_inBounds : compF Tryd.prog (Flags.mk [2] [(0, [0, 2]), (1, [0, 2, 6]), (2, [2, 3]), (3, [2, 3])] [] false) f_impl_inBounds = some c_impl_inBounds := by kernel_rfl
theorem S_spec_l00Letter : compF Tryd.prog (Flags.mk [] [(0, [0]), (1, [2])] [] false) f_spec_l00Letter = some c_spec_l00Letter := by kernel_rfl
theorem S_spec_l00Digit : compF Tryd.prog (Flags.mk [] [(0, [0]), (1, [2])] [] false) f_spec_l00Digit = some c_spec_l00Digit := by kernel_rfl
theorem S_spec_l00Word : compF Tryd.prog (Flags.mk [] [(0, [0]), (1, [0, 17]), (2, [2]), (3, [0, 3]), (4, [0, 3, 21]), (5, [0, 3]), (6, [0, 3, 35]), (7, [2]), (8, [2])] [(4, [0, 3])] false) f_spec_l00Word = some c_spec_l00Word := by kernel_rfl
theorem S_spec_l02Words : compF Tryd.prog (Flags.mk [] [(0, []), (1, [0])] [] false) f_spec_l02Words = some c_spec_l02Words := by kernel_rfl
theorem S_impl_NameOK : compF Tryd.prog (Flags.mk [] [(0, [0]), (1, [0, 12]), (2, [2]), (3, [0, 14, 15]), (4, [0, 14, 15, 16]), (5, [0, 3, 14, 15]), (6, [0, 14, 15, 29]), (7, [2]), (8, [0, 14, 15]), (9, [2])] [(4, [0, 14, 15])] false) f_impl_NameOK = some c_impl_NameOK := by kernel_rfl
theorem S_slices_Contains_string : compF Tryd.prog (Flags.mk [] [(0, [0, 1]), (1, [4])] [] false) f_slices_Contains_string = some c_slices_Contains_string := by kernel_rfl
theorem S_impl_sourceWords : compF Tryd.prog (Flags.mk [] [(0, []), (1, [0])] [] false) f_impl_sourceWords = some c_impl_sourceWords := by kernel_rfl
theorem S_strings_HasPrefix : compF Tryd.prog (Flags.mk [] [(0, [0, 1]), (1, [4])] [] false) f_strings_HasPrefix = some c_strings_HasPrefix := by kernel_rfl
theorem S_spec_l00Src_byte : compF Tryd.prog (Flags.mk [] [(0, [0]), (1, [0]), (2, [0, 19]), (3, [0]), (4, [2]), (5, [0, 59]), (6, [2]), (7, [0]), (8, [2])] [] false) f_spec_l00Src_byte = some c_spec_l00Src_byte := by kernel_rfl
theorem S_spec_l01Bit : compF Tryd.prog (Flags.mk [] [(0, [0]), (1, [3]), (2, [2]), (3, [2])] [] false) f_spec_l01Bit = some c_spec_l01Bit := by kernel_rfl
theorem S_internal_strconv_FormatBool : compF Tryd.prog (Flags.mk [] [(0, [0]), (1, [3]), (2, [2]), (3, [2])] [] false) f_internal_strconv_FormatBool = some c_internal_strconv_FormatBool := by kernel_rfl
theorem S_impl_printable_1 : compF Tryd.prog (Flags.mk [] [(0, [0]), (1, [2])] [] false) f_impl_printable_1 = some c_impl_printable_1 := by kernel_rfl
theorem S_internal_stringslite_TrimPrefix : compF Tryd.prog (Flags.mk [] [(0, [0, 1]), (1, [0, 1, 7]), (2, [4]), (3, [4])] [] false) f_internal_stringslite_TrimPrefix = some c_internal_stringslite_TrimPrefix := by kernel_rfl
theorem S_slices_IndexFunc_impl_Value : compF Tryd.prog (Flags.mk [] [(0, [0, 1]), (1, [0, 1, 7, 8]), (2, [0, 1, 7, 8, 9]), (3, [0, 1, 5, 7, 8]), (4, [0, 1, 5, 7, 8, 16]), (5, [4]), (6, [0, 1, 7, 8]), (7, [4])] [(2, [0, 1, 7, 8])] false) f_slices_IndexFunc_impl_Value = some c_slices_IndexFunc_impl_Value := by kernel_rfl
theorem S_slices_Index_string : compF Tryd.prog (Flags.mk [] [(0, [0, 1]), (1, [0, 1, 7, 8]), (2, [0, 1, 7, 8, 9]), (3, [0, 1, 5, 7, 8]), (4, [0, 1, 5, 7, 8, 16]), (5, [4]), (6, [0, 1, 7, 8]), (7, [4])] [(2, [0, 1, 7, 8])] false) f_slices_Index_string = some c_slices_Index_string := by kernel_rfl
theorem S_internal_stringslite_HasPrefix : compF Tryd.prog (Flags.mk [] [(0, [0, 1]), (1, [4])] [] false) f_internal_stringslite_HasPrefix = some c_internal_stringslite_HasPrefix := by kernel_rfl
theorem CC_prog : ∀ f cf, CC f = some cf → ∃ fl, compF Tryd.prog fl f = some cf := by
  intro f cf h
  have key : ∀ x ∈ table, ∃ fl, compF Tryd.prog fl x.1 = some x.2 := by
    unfold table
    refine List.forall_mem_cons.2 ⟨⟨_, S_laws_FnExactTokenText⟩, ?_⟩
    refine List.forall_mem_cons.2 ⟨⟨_, S_laws_FnExactLexSource⟩, ?_⟩
    refine List.forall_mem_cons.2 ⟨⟨_, S_laws_FnWords⟩, ?_⟩
    refine List.forall_mem_cons.2 ⟨⟨_, S_laws_FnExactJoinTokens⟩, ?_⟩
    refine List.forall_mem_cons.2 ⟨⟨_, S_laws_szToken⟩, ?_⟩
    refine List.forall_mem_cons.2 ⟨⟨_, S_spec_TokenText⟩, ?_⟩
    refine List.forall_mem_cons.2 ⟨⟨_, S_laws_toToken⟩, ?_⟩
    refine List.forall_mem_cons.2 ⟨⟨_, S_impl_TokenText⟩, ?_⟩
    refine List.forall_mem_cons.2 ⟨⟨_, S_spec_LexSource⟩, ?_⟩
    refine List.forall_mem_cons.2 ⟨⟨_, S_impl_LexSource⟩, ?_⟩
    refine List.forall_mem_cons.2 ⟨⟨_, S_laws_eqTokenS⟩, ?_⟩
    refine List.forall_mem_cons.2 ⟨⟨_, S_laws_markTokenS⟩, ?_⟩
    refine List.forall_mem_cons.2 ⟨⟨_, S_laws_heldTokenS⟩, ?_⟩
    refine List.forall_mem_cons.2 ⟨⟨_, S_spec_ValueOf⟩, ?_⟩
    refine List.forall_mem_cons.2 ⟨⟨_, S_impl_ValueText⟩, ?_⟩
    refine List.forall_mem_cons.2 ⟨⟨_, S_spec_ValueText⟩, ?_⟩
    refine List.forall_mem_cons.2 ⟨⟨_, S_impl_KindWord⟩, ?_⟩
    refine List.forall_mem_cons.2 ⟨⟨_, S_spec_KindWord⟩, ?_⟩
    refine List.forall_mem_cons.2 ⟨⟨_, S_impl_QuoteText⟩, ?_⟩
    refine List.forall_mem_cons.2 ⟨⟨_, S_impl_ReadValue⟩, ?_⟩
    refine List.forall_mem_cons.2 ⟨⟨_, S_impl_Builtin⟩, ?_⟩
    refine List.forall_mem_cons.2 ⟨⟨_, S_impl_BuiltinCount⟩, ?_⟩
    refine List.forall_mem_cons.2 ⟨⟨_, S_laws_szTokenS⟩, ?_⟩
    refine List.forall_mem_cons.2 ⟨⟨_, S_spec_JoinTokens⟩, ?_⟩
    refine List.forall_mem_cons.2 ⟨⟨_, S_laws_toTokenS⟩, ?_⟩
    refine List.forall_mem_cons.2 ⟨⟨_, S_impl_JoinTokens⟩, ?_⟩
    refine List.forall_mem_cons.2 ⟨⟨_, S_spec_l02Token⟩, ?_⟩
    refine List.forall_mem_cons.2 ⟨⟨_, S_spec_l02TokenText⟩, ?_⟩
    refine List.forall_mem_cons.2 ⟨⟨_, S_impl_tokenText⟩, ?_⟩
    refine List.forall_mem_cons.2 ⟨⟨_, S_spec_l02Lex⟩, ?_⟩
    refine List.forall_mem_cons.2 ⟨⟨_, S_impl_run⟩, ?_⟩
    refine List.forall_mem_cons.2 ⟨⟨_, S_impl_isBlank⟩, ?_⟩
    refine List.forall_mem_cons.2 ⟨⟨_, S_impl_token⟩, ?_⟩
    refine List.forall_mem_cons.2 ⟨⟨_, S_laws_eqToken⟩, ?_⟩
    refine List.forall_mem_cons.2 ⟨⟨_, S_laws_markText⟩, ?_⟩
    refine List.forall_mem_cons.2 ⟨⟨_, S_spec_l00Source⟩, ?_⟩
    refine List.forall_mem_cons.2 ⟨⟨_, S_spec_l00Src_value⟩, ?_⟩
    refine List.forall_mem_cons.2 ⟨⟨_, S_impl_ValueOK⟩, ?_⟩
    refine List.forall_mem_cons.2 ⟨⟨_, S_impl_valueText⟩, ?_⟩
    refine List.forall_mem_cons.2 ⟨⟨_, S_spec_ValueOK⟩, ?_⟩
    refine List.forall_mem_cons.2 ⟨⟨_, S_spec_l01ValueText⟩, ?_⟩
    refine List.forall_mem_cons.2 ⟨⟨_, S_impl_wordText⟩, ?_⟩
    refine List.forall_mem_cons.2 ⟨⟨_, S_impl_quoteText⟩, ?_⟩
    refine List.forall_mem_cons.2 ⟨⟨_, S_impl_ofBool⟩, ?_⟩
    refine List.forall_mem_cons.2 ⟨⟨_, S_impl_number⟩, ?_⟩
    refine List.forall_mem_cons.2 ⟨⟨_, S_impl_within⟩, ?_⟩
    refine List.forall_mem_cons.2 ⟨⟨_, S_impl_ofInt⟩, ?_⟩
    refine List.forall_mem_cons.2 ⟨⟨_, S_impl_quoted⟩, ?_⟩
    refine List.forall_mem_cons.2 ⟨⟨_, S_impl_ofText⟩, ?_⟩
    refine List.forall_mem_cons.2 ⟨⟨_, S_impl_builtinKinds⟩, ?_⟩
    refine List.forall_mem_cons.2 ⟨⟨_, S_impl_valuesOK⟩, ?_⟩
    refine List.forall_mem_cons.2 ⟨⟨_, S_impl_builtin⟩, ?_⟩
    refine List.forall_mem_cons.2 ⟨⟨_, S_spec_l00Join⟩, ?_⟩
    refine List.forall_mem_cons.2 ⟨⟨_, S_spec_NameOK⟩, ?_⟩
    refine List.forall_mem_cons.2 ⟨⟨_, S_spec_WordOK⟩, ?_⟩
    refine List.forall_mem_cons.2 ⟨⟨_, S_spec_l00Number⟩, ?_⟩
    refine List.forall_mem_cons.2 ⟨⟨_, S_spec_l01In⟩, ?_⟩
    refine List.forall_mem_cons.2 ⟨⟨_, S_spec_l00Digits⟩, ?_⟩
    refine List.forall_mem_cons.2 ⟨⟨_, S_spec_l02Plain⟩, ?_⟩
    refine List.forall_mem_cons.2 ⟨⟨_, S_spec_l02Sign⟩, ?_⟩
    refine List.forall_mem_cons.2 ⟨⟨_, S_spec_l02Quote⟩, ?_⟩
    refine List.forall_mem_cons.2 ⟨⟨_, S_impl_identOK⟩, ?_⟩
    refine List.forall_mem_cons.2 ⟨⟨_, S_impl_WordOK⟩, ?_⟩
    refine List.forall_mem_cons.2 ⟨⟨_, S_impl_intOK⟩, ?_⟩
    refine List.forall_mem_cons.2 ⟨⟨_, S_impl_isSign⟩, ?_⟩
    refine List.forall_mem_cons.2 ⟨⟨_, S_spec_l02Next⟩, ?_⟩
    refine List.forall_mem_cons.2 ⟨⟨_, S_impl_isLetter⟩, ?_⟩
    refine List.forall_mem_cons.2 ⟨⟨_, S_impl_identByte⟩, ?_⟩
    refine List.forall_mem_cons.2 ⟨⟨_, S_impl_isDigit⟩, ?_⟩
    refine List.forall_mem_cons.2 ⟨⟨_, S_impl_sign⟩, ?_⟩
    refine List.forall_mem_cons.2 ⟨⟨_, S_spec_l00Src_next⟩, ?_⟩
    refine List.forall_mem_cons.2 ⟨⟨_, S_spec_l01Bool⟩, ?_⟩
    refine List.forall_mem_cons.2 ⟨⟨_, S_spec_l00Src_chance⟩, ?_⟩
    refine List.forall_mem_cons.2 ⟨⟨_, S_spec_l01Text⟩, ?_⟩
    refine List.forall_mem_cons.2 ⟨⟨_, S_spec_l00Src_pick⟩, ?_⟩
    refine List.forall_mem_cons.2 ⟨⟨_, S_spec_l01Int⟩, ?_⟩
    refine List.forall_mem_cons.2 ⟨⟨_, S_strconv_FormatBool⟩, ?_⟩
    refine List.forall_mem_cons.2 ⟨⟨_, S_impl_printable⟩, ?_⟩
    refine List.forall_mem_cons.2 ⟨⟨_, S_strings_TrimPrefix⟩, ?_⟩
    refine List.forall_mem_cons.2 ⟨⟨_, S_slices_ContainsFunc_impl_Value⟩, ?_⟩
    refine List.forall_mem_cons.2 ⟨⟨_, S_impl_valuesOK_1⟩, ?_⟩
    refine List.forall_mem_cons.2 ⟨⟨_, S_impl_inBounds⟩, ?_⟩
    refine List.forall_mem_cons.2 ⟨⟨_, S_spec_l00Letter⟩, ?_⟩
    refine List.forall_mem_cons.2 ⟨⟨_, S_spec_l00Digit⟩, ?_⟩
    refine List.forall_mem_cons.2 ⟨⟨_, S_spec_l00Word⟩, ?_⟩
    refine List.forall_mem_cons.2 ⟨⟨_, S_spec_l02Words⟩, ?_⟩
    refine List.forall_mem_cons.2 ⟨⟨_, S_impl_NameOK⟩, ?_⟩
    refine List.forall_mem_cons.2 ⟨⟨_, S_slices_Contains_string⟩, ?_⟩
    refine List.forall_mem_cons.2 ⟨⟨_, S_impl_sourceWords⟩, ?_⟩
    refine List.forall_mem_cons.2 ⟨⟨_, S_strings_HasPrefix⟩, ?_⟩
    refine List.forall_mem_cons.2 ⟨⟨_, S_spec_l00Src_byte⟩, ?_⟩
    refine List.forall_mem_cons.2 ⟨⟨_, S_spec_l01Bit⟩, ?_⟩
    refine List.forall_mem_cons.2 ⟨⟨_, S_internal_strconv_FormatBool⟩, ?_⟩
    refine List.forall_mem_cons.2 ⟨⟨_, S_impl_printable_1⟩, ?_⟩
    refine List.forall_mem_cons.2 ⟨⟨_, S_internal_stringslite_TrimPrefix⟩, ?_⟩
    refine List.forall_mem_cons.2 ⟨⟨_, S_slices_IndexFunc_impl_Value⟩, ?_⟩
    refine List.forall_mem_cons.2 ⟨⟨_, S_slices_Index_string⟩, ?_⟩
    refine List.forall_mem_cons.2 ⟨⟨_, S_internal_stringslite_HasPrefix⟩, ?_⟩
    intro x hx; cases hx
  exact key _ (lk_mem h)
theorem mixed : Tryd.prog.follows .mixedOrders = true := by kernel_rfl
end Go.X
