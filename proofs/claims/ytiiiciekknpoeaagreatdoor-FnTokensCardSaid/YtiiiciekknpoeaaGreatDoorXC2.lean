/- Printed by gencf.py (mine): the resolved functions are the program's. -/
import Derived.Test.YtiiiciekknpoeaaGreatDoorXC1
import Derived.Test.YtiiiciekknpoeaaGreatDoorProg
import Derived.KernelRfl
namespace Go.X
open Go Go.Proofs
set_option maxRecDepth 100000
theorem S_laws_FnTokens : compF Tryz.prog (Flags.mk [] [(0, [0]), (1, [0, 22]), (2, [2]), (3, [3]), (4, [3, 4, 5, 6]), (5, [4, 5, 6, 7, 8, 9]), (6, [4, 6, 50]), (7, [2]), (8, [4, 52]), (9, [2]), (10, [4, 10, 11]), (11, [4, 10, 62]), (12, [2]), (13, [4, 10, 65]), (14, [2]), (15, [4, 12, 14]), (16, [4, 12, 80]), (17, [2]), (18, [4, 12, 15]), (19, [4, 12, 15, 84]), (20, [4, 12, 15]), (21, [4, 12, 15, 16, 17]), (22, [4, 12, 15, 16, 17, 18]), (23, [4, 12, 15, 153]), (24, [2]), (25, [2])] [(19, [4, 12, 15])] false) f_laws_FnTokens = some c_laws_FnTokens := by kernel_rfl
theorem S_spec_AnySource : compF Tryz.prog (Flags.mk [] [(0, [0]), (1, [2])] [] false) f_spec_AnySource = some c_spec_AnySource := by kernel_rfl
theorem S_impl_LexSource : compF Tryz.prog (Flags.mk [7, 44] [(0, [0]), (1, [0, 10]), (2, [2, 3, 4]), (3, [0, 14]), (4, [2, 3, 4]), (5, [0, 5]), (6, [0, 5, 6]), (7, [0, 5, 6, 24]), (8, [0, 5, 6]), (9, [0, 5, 6, 30]), (10, [2, 3, 4]), (11, [0, 5, 6, 7, 8, 9]), (12, [0, 5, 6, 7, 8, 40]), (13, [2, 3, 4]), (14, [0, 5, 8]), (15, [0, 5, 6]), (16, [2, 3, 4])] [(7, [0, 5, 6])] false) f_impl_LexSource = some c_impl_LexSource := by kernel_rfl
theorem S_spec_LexSource : compF Tryz.prog (Flags.mk [] [(0, [0]), (1, [0, 7]), (2, [2, 3, 4]), (3, [0, 11]), (4, [2, 3, 4]), (5, [2, 3, 4])] [] false) f_spec_LexSource = some c_spec_LexSource := by kernel_rfl
theorem S_laws_sameTokens : compF Tryz.prog (Flags.mk [] [(0, [0, 1]), (1, [0, 1, 10]), (2, [4]), (3, [0, 1, 5]), (4, [0, 1, 5, 14]), (5, [0, 1, 5]), (6, [0, 1, 5, 25]), (7, [4]), (8, [4])] [(4, [0, 1, 5])] false) f_laws_sameTokens = some c_laws_sameTokens := by kernel_rfl
theorem S_impl_JoinTokens : compF Tryz.prog (Flags.mk [6, 33] [(0, [0]), (1, [0, 9]), (2, [2, 3]), (3, [0, 13]), (4, [2, 3]), (5, [0, 4]), (6, [4, 18, 19, 20]), (7, [4, 18, 19, 20, 21]), (8, [4, 6, 18, 19, 20]), (9, [4, 7, 8, 18, 19, 20]), (10, [4, 7, 18, 19, 20, 30]), (11, [2, 3]), (12, [4, 18, 19, 20]), (13, [4, 18, 19, 20]), (14, [2, 3])] [(7, [4, 18, 19, 20])] false) f_impl_JoinTokens = some c_impl_JoinTokens := by kernel_rfl
theorem S_impl_TokenText : compF Tryz.prog (Flags.mk [1] [(0, [1]), (1, [4, 5]), (2, [4, 12]), (3, [2, 3]), (4, [2, 3])] [] false) f_impl_TokenText = some c_impl_TokenText := by kernel_rfl
theorem S_spec_TokenText : compF Tryz.prog (Flags.mk [1] [(0, [1]), (1, [1, 6]), (2, [2, 3]), (3, [2, 3])] [] false) f_spec_TokenText = some c_spec_TokenText := by kernel_rfl
theorem S_spec_l00Source : compF Tryz.prog (Flags.mk [] [(0, [0]), (1, [2])] [] false) f_spec_l00Source = some c_spec_l00Source := by kernel_rfl
theorem S_spec_l00Src_anyProgram : compF Tryz.prog (Flags.mk [] [(0, [0]), (1, [0, 3]), (2, [0, 3, 7]), (3, [0, 3, 7, 8]), (4, [3]), (5, [0, 3, 15]), (6, [3]), (7, [2])] [] false) f_spec_l00Src_anyProgram = some c_spec_l00Src_anyProgram := by kernel_rfl
theorem S_impl_run : compF Tryz.prog (Flags.mk [] [(0, [0, 1, 2]), (1, [0, 1, 2, 17]), (2, [0, 1, 2]), (3, [6])] [(1, [0, 1, 2])] false) f_impl_run = some c_impl_run := by kernel_rfl
theorem S_impl_isBlank : compF Tryz.prog (Flags.mk [] [(0, [0]), (1, [2])] [] false) f_impl_isBlank = some c_impl_isBlank := by kernel_rfl
theorem S_impl_token : compF Tryz.prog (Flags.mk [4] [(0, [0, 1, 4]), (1, [0, 1, 4, 7]), (2, [0, 1, 4, 7, 18]), (3, [0, 1, 4, 8]), (4, [1, 4, 8, 9]), (5, [1, 4, 8, 9, 29]), (6, [4, 5, 6]), (7, [4, 5, 6]), (8, [0, 1, 4, 7, 40]), (9, [0, 1, 4, 10]), (10, [4, 5, 6]), (11, [0, 1, 4, 58]), (12, [1, 4, 11, 12, 13]), (13, [4, 5, 6]), (14, [1, 4, 14]), (15, [4, 5, 6])] [] false) f_impl_token = some c_impl_token := by kernel_rfl
theorem S_spec_l02Lex : compF Tryz.prog (Flags.mk [8, 49] [(0, [0]), (1, [0, 5]), (2, [0, 5, 6]), (3, [0, 5, 6, 15]), (4, [0, 5, 6, 7]), (5, [0, 5, 6, 28]), (6, [0, 5, 6]), (7, [0, 5, 6, 33]), (8, [2, 3, 4]), (9, [0, 5, 6, 8, 9, 10]), (10, [0, 5, 6, 8, 9, 44]), (11, [2, 3, 4]), (12, [0, 5, 9]), (13, [0, 5, 6]), (14, [2, 3, 4])] [(3, [0, 5, 6])] false) f_spec_l02Lex = some c_spec_l02Lex := by kernel_rfl
theorem S_impl_tokenText : compF Tryz.prog (Flags.mk [1] [(0, [1]), (1, [1, 5]), (2, [1, 5, 6]), (3, [2, 3]), (4, [1, 5, 13]), (5, [2, 3]), (6, [1, 5, 20]), (7, [2, 3]), (8, [1, 5, 27]), (9, [2, 3]), (10, [1, 35]), (11, [2, 3]), (12, [2, 3])] [] false) f_impl_tokenText = some c_impl_tokenText := by kernel_rfl
theorem S_spec_l02Token : compF Tryz.prog (Flags.mk [1] [(0, [1]), (1, [1, 6]), (2, [1, 6, 7]), (3, [2]), (4, [1, 6, 24]), (5, [2]), (6, [1, 6, 29]), (7, [1, 3, 4]), (8, [2]), (9, [1, 6, 49]), (10, [2]), (11, [1, 54]), (12, [1, 59]), (13, [2]), (14, [2]), (15, [2])] [] false) f_spec_l02Token = some c_spec_l02Token := by kernel_rfl
theorem S_spec_l02TokenText : compF Tryz.prog (Flags.mk [1] [(0, [1]), (1, [1, 5]), (2, [2]), (3, [2])] [] false) f_spec_l02TokenText = some c_spec_l02TokenText := by kernel_rfl
theorem S_spec_l00Src_program : compF Tryz.prog (Flags.mk [] [(0, [0]), (1, [0, 3]), (2, [0, 3, 4]), (3, [0, 3, 4, 5]), (4, [0, 3, 4, 5, 15]), (5, [0, 3, 4, 5]), (6, [0, 3, 4, 5]), (7, [2])] [(4, [0, 3, 4, 5])] false) f_spec_l00Src_program = some c_spec_l00Src_program := by kernel_rfl
theorem S_spec_l00Src_next : compF Tryz.prog (Flags.mk [] [(0, [0, 1]), (1, [0, 1, 9]), (2, [4]), (3, [0, 1, 11]), (4, [4]), (5, [0, 1, 5]), (6, [0, 1, 5, 6]), (7, [1, 5, 6, 7]), (8, [4])] [] false) f_spec_l00Src_next = some c_spec_l00Src_next := by kernel_rfl
theorem S_spec_l00Src_spoilt : compF Tryz.prog (Flags.mk [41] [(0, [0, 1]), (1, [0, 1, 6]), (2, [0, 1, 6, 7]), (3, [0, 1, 11]), (4, [1]), (5, [0, 1, 6, 25]), (6, [1]), (7, [0, 1, 34]), (8, [1]), (9, [4])] [] false) f_spec_l00Src_spoilt = some c_spec_l00Src_spoilt := by kernel_rfl
theorem S_spec_l00Src_pick : compF Tryz.prog (Flags.mk [] [(0, [0, 1]), (1, [0, 1, 7]), (2, [4]), (3, [4])] [] false) f_spec_l00Src_pick = some c_spec_l00Src_pick := by kernel_rfl
theorem S_impl_isLetter : compF Tryz.prog (Flags.mk [] [(0, [0]), (1, [2])] [] false) f_impl_isLetter = some c_impl_isLetter := by kernel_rfl
theorem S_impl_identByte : compF Tryz.prog (Flags.mk [] [(0, [0]), (1, [2])] [] false) f_impl_identByte = some c_impl_identByte := by kernel_rfl
theorem S_impl_WordOK : compF Tryz.prog (Flags.mk [] [(0, [0]), (1, [2])] [] false) f_impl_WordOK = some c_impl_WordOK := by kernel_rfl
theorem S_impl_identOK : compF Tryz.prog (Flags.mk [] [(0, [0]), (1, [2])] [] false) f_impl_identOK = some c_impl_identOK := by kernel_rfl
theorem S_impl_isDigit : compF Tryz.prog (Flags.mk [] [(0, [0]), (1, [2])] [] false) f_impl_isDigit = some c_impl_isDigit := by kernel_rfl
theorem S_impl_intOK : compF Tryz.prog (Flags.mk [] [(0, [0]), (1, [3, 4]), (2, [2])] [] false) f_impl_intOK = some c_impl_intOK := by kernel_rfl
theorem S_impl_quoted : compF Tryz.prog (Flags.mk [75] [(0, [0, 1]), (1, [0, 1, 19]), (2, [4, 5, 6]), (3, [0, 1, 7]), (4, [0, 7, 8]), (5, [0, 7, 8, 26]), (6, [0, 7, 8]), (7, [0, 7, 8, 9]), (8, [0, 7, 8, 9, 32]), (9, [4, 5, 6]), (10, [0, 7, 8, 9, 42]), (11, [0, 7, 8]), (12, [0, 7, 8, 62]), (13, [4, 5, 6]), (14, [0, 7, 8, 9]), (15, [0, 7, 8, 9, 66]), (16, [4, 5, 6]), (17, [0, 7, 8]), (18, [4, 5, 6])] [(5, [0, 7, 8])] false) f_impl_quoted = some c_impl_quoted := by kernel_rfl
theorem S_impl_sign : compF Tryz.prog (Flags.mk [] [(0, [0, 1]), (1, [0, 1, 7, 8, 9]), (2, [0, 1, 7, 8, 9, 10]), (3, [0, 1, 6, 7, 8, 9]), (4, [0, 1, 6, 7, 8, 9, 17]), (5, [4]), (6, [0, 1, 7, 8, 9]), (7, [0, 1, 24]), (8, [4]), (9, [4])] [(2, [0, 1, 7, 8, 9])] false) f_impl_sign = some c_impl_sign := by kernel_rfl
theorem S_spec_l02Next : compF Tryz.prog (Flags.mk [4, 146] [(0, [0, 1, 4]), (1, [0, 1, 4, 7]), (2, [0, 1, 4, 7, 8]), (3, [0, 1, 4, 7, 8, 18]), (4, [0, 1, 4, 8, 36]), (5, [0, 1, 4, 8]), (6, [0, 1, 4, 8, 42]), (7, [4, 5, 6]), (8, [0, 1, 4, 8, 9]), (9, [0, 1, 4, 8, 9, 49]), (10, [0, 1, 4, 8, 9]), (11, [4, 5, 6]), (12, [0, 1, 4, 7, 8, 58]), (13, [0, 1, 4, 8, 70]), (14, [0, 1, 4, 8]), (15, [0, 1, 4, 8, 10, 11]), (16, [0, 1, 4, 8, 86]), (17, [4, 5, 6]), (18, [4, 5, 6]), (19, [0, 1, 4, 7, 8, 96]), (20, [0, 1, 4, 8, 12]), (21, [0, 1, 4, 8, 12, 109]), (22, [0, 1, 4, 8, 12, 113]), (23, [0, 1, 4, 8, 12]), (24, [0, 1, 4, 8, 12, 131]), (25, [4, 5, 6]), (26, [0, 1, 4, 8, 12, 139]), (27, [4, 5, 6]), (28, [0, 1, 4, 8, 12]), (29, [0, 1, 4, 8, 12]), (30, [1, 4, 8, 12, 158]), (31, [4, 5, 6]), (32, [4, 5, 6]), (33, [0, 1, 4, 7, 8, 167]), (34, [0, 1, 4, 7, 8, 203]), (35, [0, 1, 4, 8]), (36, [0, 1, 4, 8, 211]), (37, [4, 5, 6]), (38, [4, 5, 6]), (39, [4, 5, 6])] [(4, [0, 1, 4, 8]), (13, [0, 1, 4, 8]), (21, [0, 1, 4, 8, 12])] false) f_spec_l02Next = some c_spec_l02Next := by kernel_rfl
theorem S_impl_quoteText : compF Tryz.prog (Flags.mk [21, 25, 29] [(0, [0]), (1, [0, 3]), (2, [3, 8, 9, 10]), (3, [3, 8, 9, 10, 11]), (4, [3, 5, 8, 9, 10]), (5, [3, 5, 8, 9, 10, 19]), (6, [3, 5, 8, 9, 10]), (7, [3, 8, 9, 10]), (8, [3, 8, 9, 10]), (9, [2])] [(3, [3, 8, 9, 10])] false) f_impl_quoteText = some c_impl_quoteText := by kernel_rfl
theorem S_impl_wordText : compF Tryz.prog (Flags.mk [] [(0, [0]), (1, [2])] [] false) f_impl_wordText = some c_impl_wordText := by kernel_rfl
theorem S_impl_isSign : compF Tryz.prog (Flags.mk [] [(0, [0]), (1, [2])] [] false) f_impl_isSign = some c_impl_isSign := by kernel_rfl
theorem S_spec_NameOK : compF Tryz.prog (Flags.mk [] [(0, [0]), (1, [2])] [] false) f_spec_NameOK = some c_spec_NameOK := by kernel_rfl
theorem S_spec_WordOK : compF Tryz.prog (Flags.mk [] [(0, [0]), (1, [0, 7]), (2, [2]), (3, [0, 3]), (4, [0, 3, 4]), (5, [0, 3, 4, 12]), (6, [0, 3, 4]), (7, [0, 3, 4, 20]), (8, [2]), (9, [2])] [(5, [0, 3, 4])] false) f_spec_WordOK = some c_spec_WordOK := by kernel_rfl
theorem S_spec_l00Number : compF Tryz.prog (Flags.mk [] [(0, [0]), (1, [0, 4]), (2, [0, 4, 14]), (3, [0, 4]), (4, [0, 4]), (5, [0, 4, 38]), (6, [2, 3]), (7, [0, 4, 5]), (8, [0, 4, 5, 6]), (9, [0, 4, 5, 6, 42]), (10, [0, 4, 5, 6]), (11, [0, 4, 5, 6, 54]), (12, [2, 3]), (13, [0, 4, 5, 6]), (14, [2, 3])] [(9, [0, 4, 5, 6])] false) f_spec_l00Number = some c_spec_l00Number := by kernel_rfl
theorem S_spec_l01In : compF Tryz.prog (Flags.mk [] [(0, [0, 1, 2]), (1, [6])] [] false) f_spec_l01In = some c_spec_l01In := by kernel_rfl
theorem S_spec_l00Digits : compF Tryz.prog (Flags.mk [] [(0, [0]), (1, [0, 4]), (2, [2]), (3, [0, 6]), (4, [2]), (5, [0, 12]), (6, [2]), (7, [2])] [] true) f_spec_l00Digits = some c_spec_l00Digits := by kernel_rfl
theorem S_spec_l02Plain : compF Tryz.prog (Flags.mk [] [(0, [0]), (1, [0, 3]), (2, [0, 3, 7]), (3, [0, 3]), (4, [0, 3, 15]), (5, [2]), (6, [2])] [(2, [0, 3])] false) f_spec_l02Plain = some c_spec_l02Plain := by kernel_rfl
theorem S_spec_l02Sign : compF Tryz.prog (Flags.mk [] [(0, [0]), (1, [0, 3]), (2, [0, 3, 5]), (3, [0, 3]), (4, [0, 3, 11]), (5, [2]), (6, [2])] [(2, [0, 3])] false) f_spec_l02Sign = some c_spec_l02Sign := by kernel_rfl
theorem S_spec_l02Quote : compF Tryz.prog (Flags.mk [23, 29, 32] [(0, [0]), (1, [0, 3]), (2, [0, 3, 4]), (3, [0, 3, 4, 9]), (4, [0, 3, 4]), (5, [0, 3, 4, 21]), (6, [0, 3, 4]), (7, [0, 3, 4]), (8, [2])] [(3, [0, 3, 4])] false) f_spec_l02Quote = some c_spec_l02Quote := by kernel_rfl
theorem S_spec_l00Src_stateText : compF Tryz.prog (Flags.mk [] [(0, [0, 1, 2]), (1, [0, 1, 2, 7]), (2, [0, 1, 2, 7, 13]), (3, [6]), (4, [0, 1, 2, 7, 8]), (5, [0, 1, 2, 7, 8, 28]), (6, [0, 1, 2, 7, 8, 28, 29]), (7, [0, 1, 2, 7, 8, 28, 29]), (8, [6]), (9, [0, 1, 2, 7, 8, 28, 35]), (10, [6]), (11, [0, 7, 8, 28, 49]), (12, [6]), (13, [0, 7, 8, 28, 56]), (14, [6]), (15, [7, 8, 28, 67]), (16, [6]), (17, [7, 8, 28, 72]), (18, [6]), (19, [7, 8, 28, 77]), (20, [6]), (21, [7, 82]), (22, [6]), (23, [6])] [] false) f_spec_l00Src_stateText = some c_spec_l00Src_stateText := by kernel_rfl
theorem S_spec_l00Src_exprText : compF Tryz.prog (Flags.mk [] [(0, [0, 1, 2]), (1, [0, 1, 2, 14]), (2, [0, 1, 16]), (3, [0, 1, 16, 17]), (4, [6]), (5, [0, 1, 16, 22]), (6, [0, 1, 22]), (7, [6]), (8, [6]), (9, [0, 1, 2, 7]), (10, [0, 7, 8]), (11, [0, 7, 8, 42]), (12, [0, 7, 8, 42, 43]), (13, [6]), (14, [0, 7, 8, 42, 48]), (15, [6]), (16, [0, 7, 8, 42, 57]), (17, [6]), (18, [0, 7, 8, 42, 66]), (19, [6]), (20, [0, 7, 8, 42, 75]), (21, [6]), (22, [0, 7, 8, 87]), (23, [6]), (24, [6])] [] false) f_spec_l00Src_exprText = some c_spec_l00Src_exprText := by kernel_rfl
theorem S_spec_l00Src_byte : compF Tryz.prog (Flags.mk [] [(0, [0]), (1, [0]), (2, [0, 19]), (3, [0]), (4, [2]), (5, [0, 59]), (6, [2]), (7, [0]), (8, [2])] [] false) f_spec_l00Src_byte = some c_spec_l00Src_byte := by kernel_rfl
theorem S_slices_Contains_string : compF Tryz.prog (Flags.mk [] [(0, [0, 1]), (1, [4])] [] false) f_slices_Contains_string = some c_slices_Contains_string := by kernel_rfl
theorem S_impl_sourceWords : compF Tryz.prog (Flags.mk [] [(0, []), (1, [0])] [] false) f_impl_sourceWords = some c_impl_sourceWords := by kernel_rfl
theorem S_impl_NameOK : compF Tryz.prog (Flags.mk [] [(0, [0]), (1, [0, 12]), (2, [2]), (3, [0, 14, 15]), (4, [0, 14, 15, 16]), (5, [0, 3, 14, 15]), (6, [0, 14, 15, 29]), (7, [2]), (8, [0, 14, 15]), (9, [2])] [(4, [0, 14, 15])] false) f_impl_NameOK = some c_impl_NameOK := by kernel_rfl
theorem S_impl_number : compF Tryz.prog (Flags.mk [] [(0, [0]), (1, [0, 4, 5]), (2, [2, 3])] [] false) f_impl_number = some c_impl_number := by kernel_rfl
theorem S_impl_within : compF Tryz.prog (Flags.mk [] [(0, [0, 1, 2]), (1, [6])] [] false) f_impl_within = some c_impl_within := by kernel_rfl
theorem S_strings_HasPrefix : compF Tryz.prog (Flags.mk [] [(0, [0, 1]), (1, [4])] [] false) f_strings_HasPrefix = some c_strings_HasPrefix := by kernel_rfl
theorem S_spec_l00Letter : compF Tryz.prog (Flags.mk [] [(0, [0]), (1, [2])] [] false) f_spec_l00Letter = some c_spec_l00Letter := by kernel_rfl
theorem S_spec_l00Digit : compF Tryz.prog (Flags.mk [] [(0, [0]), (1, [2])] [] false) f_spec_l00Digit = some c_spec_l00Digit := by kernel_rfl
theorem S_impl_printable : compF Tryz.prog (Flags.mk [] [(0, [0]), (1, [2])] [] false) f_impl_printable = some c_impl_printable := by kernel_rfl
theorem S_spec_l00Word : compF Tryz.prog (Flags.mk [] [(0, [0]), (1, [0, 17]), (2, [2]), (3, [0, 3]), (4, [0, 3, 21]), (5, [0, 3]), (6, [0, 3, 35]), (7, [2]), (8, [2])] [(4, [0, 3])] false) f_spec_l00Word = some c_spec_l00Word := by kernel_rfl
theorem S_spec_l02Words : compF Tryz.prog (Flags.mk [] [(0, []), (1, [0])] [] false) f_spec_l02Words = some c_spec_l02Words := by kernel_rfl
theorem S_spec_l00Src_blockText : compF Tryz.prog (Flags.mk [] [(0, [0, 1, 2]), (1, [0, 1, 2, 7]), (2, [0, 1, 2, 7, 8]), (3, [0, 1, 2, 7, 8, 12]), (4, [0, 1, 2, 7, 8]), (5, [0, 1, 2, 7, 8]), (6, [6])] [(3, [0, 1, 2, 7, 8])] false) f_spec_l00Src_blockText = some c_spec_l00Src_blockText := by kernel_rfl
theorem S_spec_l00Src_chance : compF Tryz.prog (Flags.mk [] [(0, [0, 1]), (1, [4])] [] false) f_spec_l00Src_chance = some c_spec_l00Src_chance := by kernel_rfl
theorem S_spec_l00Src_op : compF Tryz.prog (Flags.mk [] [(0, [0]), (1, [2])] [] false) f_spec_l00Src_op = some c_spec_l00Src_op := by kernel_rfl
theorem S_slices_Index_string : compF Tryz.prog (Flags.mk [] [(0, [0, 1]), (1, [0, 1, 7, 8]), (2, [0, 1, 7, 8, 9]), (3, [0, 1, 5, 7, 8]), (4, [0, 1, 5, 7, 8, 16]), (5, [4]), (6, [0, 1, 7, 8]), (7, [4])] [(2, [0, 1, 7, 8])] false) f_slices_Index_string = some c_slices_Index_string := by kernel_rfl
theorem S_strings_TrimPrefix : compF Tryz.prog (Flags.mk [] [(0, [0, 1]), (1, [4])] [] false) f_strings_TrimPrefix = some c_strings_TrimPrefix := by kernel_rfl
theorem S_internal_stringslite_HasPrefix : compF Tryz.prog (Flags.mk [] [(0, [0, 1]), (1, [4])] [] false) f_internal_stringslite_HasPrefix = some c_internal_stringslite_HasPrefix := by kernel_rfl
theorem S_impl_printable_1 : compF Tryz.prog (Flags.mk [] [(0, [0]), (1, [2])] [] false) f_impl_printable_1 = some c_impl_printable_1 := by kernel_rfl
theorem S_internal_stringslite_TrimPrefix : compF Tryz.prog (Flags.mk [] [(0, [0, 1]), (1, [0, 1, 7]), (2, [4]), (3, [4])] [] false) f_internal_stringslite_TrimPrefix = some c_internal_stringslite_TrimPrefix := by kernel_rfl
theorem CC_prog : ∀ f cf, CC f = some cf → ∃ fl, compF Tryz.prog fl f = some cf := by
  intro f cf h
  have key : ∀ x ∈ table, ∃ fl, compF Tryz.prog fl x.1 = some x.2 := by
    unfold table
    refine List.forall_mem_cons.2 ⟨⟨_, S_laws_FnTokens⟩, ?_⟩
    refine List.forall_mem_cons.2 ⟨⟨_, S_spec_AnySource⟩, ?_⟩
    refine List.forall_mem_cons.2 ⟨⟨_, S_impl_LexSource⟩, ?_⟩
    refine List.forall_mem_cons.2 ⟨⟨_, S_spec_LexSource⟩, ?_⟩
    refine List.forall_mem_cons.2 ⟨⟨_, S_laws_sameTokens⟩, ?_⟩
    refine List.forall_mem_cons.2 ⟨⟨_, S_impl_JoinTokens⟩, ?_⟩
    refine List.forall_mem_cons.2 ⟨⟨_, S_impl_TokenText⟩, ?_⟩
    refine List.forall_mem_cons.2 ⟨⟨_, S_spec_TokenText⟩, ?_⟩
    refine List.forall_mem_cons.2 ⟨⟨_, S_spec_l00Source⟩, ?_⟩
    refine List.forall_mem_cons.2 ⟨⟨_, S_spec_l00Src_anyProgram⟩, ?_⟩
    refine List.forall_mem_cons.2 ⟨⟨_, S_impl_run⟩, ?_⟩
    refine List.forall_mem_cons.2 ⟨⟨_, S_impl_isBlank⟩, ?_⟩
    refine List.forall_mem_cons.2 ⟨⟨_, S_impl_token⟩, ?_⟩
    refine List.forall_mem_cons.2 ⟨⟨_, S_spec_l02Lex⟩, ?_⟩
    refine List.forall_mem_cons.2 ⟨⟨_, S_impl_tokenText⟩, ?_⟩
    refine List.forall_mem_cons.2 ⟨⟨_, S_spec_l02Token⟩, ?_⟩
    refine List.forall_mem_cons.2 ⟨⟨_, S_spec_l02TokenText⟩, ?_⟩
    refine List.forall_mem_cons.2 ⟨⟨_, S_spec_l00Src_program⟩, ?_⟩
    refine List.forall_mem_cons.2 ⟨⟨_, S_spec_l00Src_next⟩, ?_⟩
    refine List.forall_mem_cons.2 ⟨⟨_, S_spec_l00Src_spoilt⟩, ?_⟩
    refine List.forall_mem_cons.2 ⟨⟨_, S_spec_l00Src_pick⟩, ?_⟩
    refine List.forall_mem_cons.2 ⟨⟨_, S_impl_isLetter⟩, ?_⟩
    refine List.forall_mem_cons.2 ⟨⟨_, S_impl_identByte⟩, ?_⟩
    refine List.forall_mem_cons.2 ⟨⟨_, S_impl_WordOK⟩, ?_⟩
    refine List.forall_mem_cons.2 ⟨⟨_, S_impl_identOK⟩, ?_⟩
    refine List.forall_mem_cons.2 ⟨⟨_, S_impl_isDigit⟩, ?_⟩
    refine List.forall_mem_cons.2 ⟨⟨_, S_impl_intOK⟩, ?_⟩
    refine List.forall_mem_cons.2 ⟨⟨_, S_impl_quoted⟩, ?_⟩
    refine List.forall_mem_cons.2 ⟨⟨_, S_impl_sign⟩, ?_⟩
    refine List.forall_mem_cons.2 ⟨⟨_, S_spec_l02Next⟩, ?_⟩
    refine List.forall_mem_cons.2 ⟨⟨_, S_impl_quoteText⟩, ?_⟩
    refine List.forall_mem_cons.2 ⟨⟨_, S_impl_wordText⟩, ?_⟩
    refine List.forall_mem_cons.2 ⟨⟨_, S_impl_isSign⟩, ?_⟩
    refine List.forall_mem_cons.2 ⟨⟨_, S_spec_NameOK⟩, ?_⟩
    refine List.forall_mem_cons.2 ⟨⟨_, S_spec_WordOK⟩, ?_⟩
    refine List.forall_mem_cons.2 ⟨⟨_, S_spec_l00Number⟩, ?_⟩
    refine List.forall_mem_cons.2 ⟨⟨_, S_spec_l01In⟩, ?_⟩
    refine List.forall_mem_cons.2 ⟨⟨_, S_spec_l00Digits⟩, ?_⟩
    refine List.forall_mem_cons.2 ⟨⟨_, S_spec_l02Plain⟩, ?_⟩
    refine List.forall_mem_cons.2 ⟨⟨_, S_spec_l02Sign⟩, ?_⟩
    refine List.forall_mem_cons.2 ⟨⟨_, S_spec_l02Quote⟩, ?_⟩
    refine List.forall_mem_cons.2 ⟨⟨_, S_spec_l00Src_stateText⟩, ?_⟩
    refine List.forall_mem_cons.2 ⟨⟨_, S_spec_l00Src_exprText⟩, ?_⟩
    refine List.forall_mem_cons.2 ⟨⟨_, S_spec_l00Src_byte⟩, ?_⟩
    refine List.forall_mem_cons.2 ⟨⟨_, S_slices_Contains_string⟩, ?_⟩
    refine List.forall_mem_cons.2 ⟨⟨_, S_impl_sourceWords⟩, ?_⟩
    refine List.forall_mem_cons.2 ⟨⟨_, S_impl_NameOK⟩, ?_⟩
    refine List.forall_mem_cons.2 ⟨⟨_, S_impl_number⟩, ?_⟩
    refine List.forall_mem_cons.2 ⟨⟨_, S_impl_within⟩, ?_⟩
    refine List.forall_mem_cons.2 ⟨⟨_, S_strings_HasPrefix⟩, ?_⟩
    refine List.forall_mem_cons.2 ⟨⟨_, S_spec_l00Letter⟩, ?_⟩
    refine List.forall_mem_cons.2 ⟨⟨_, S_spec_l00Digit⟩, ?_⟩
    refine List.forall_mem_cons.2 ⟨⟨_, S_impl_printable⟩, ?_⟩
    refine List.forall_mem_cons.2 ⟨⟨_, S_spec_l00Word⟩, ?_⟩
    refine List.forall_mem_cons.2 ⟨⟨_, S_spec_l02Words⟩, ?_⟩
    refine List.forall_mem_cons.2 ⟨⟨_, S_spec_l00Src_blockText⟩, ?_⟩
    refine List.forall_mem_cons.2 ⟨⟨_, S_spec_l00Src_chance⟩, ?_⟩
    refine List.forall_mem_cons.2 ⟨⟨_, S_spec_l00Src_op⟩, ?_⟩
    refine List.forall_mem_cons.2 ⟨⟨_, S_slices_Index_string⟩, ?_⟩
    refine List.forall_mem_cons.2 ⟨⟨_, S_strings_TrimPrefix⟩, ?_⟩
    refine List.forall_mem_cons.2 ⟨⟨_, S_internal_stringslite_HasPrefix⟩, ?_⟩
    refine List.forall_mem_cons.2 ⟨⟨_, S_impl_printable_1⟩, ?_⟩
    refine List.forall_mem_cons.2 ⟨⟨_, S_internal_stringslite_TrimPrefix⟩, ?_⟩
    intro x hx; cases hx
  exact key _ (lk_mem h)
theorem mixed : Tryz.prog.follows .mixedOrders = true := by kernel_rfl
end Go.X
