/- Printed by gencf.py (mine): the numbers of the seat's functions by name. -/
import Derived.Test.YtlliifjmnddckaaDoorX21
namespace Go.X
open Go
abbrev f_laws_FnTexts : FuncId := 3
abbrev f_spec_ValueOf : FuncId := 4
abbrev f_impl_Builtin : FuncId := 5
abbrev f_laws_at : FuncId := 6
abbrev f_impl_Binary : FuncId := 7
abbrev f_spec_l00Source : FuncId := 8
abbrev f_spec_l00Src_value : FuncId := 9
abbrev f_impl_builtinKinds : FuncId := 10
abbrev f_impl_valuesOK : FuncId := 11
abbrev f_impl_builtin : FuncId := 12
abbrev f_impl_ValueOK : FuncId := 13
abbrev f_impl_isBinary : FuncId := 14
abbrev f_impl_binary : FuncId := 15
abbrev f_spec_l00Src_next : FuncId := 16
abbrev f_spec_l01Bool : FuncId := 17
abbrev f_spec_l00Src_chance : FuncId := 18
abbrev f_spec_l01Text : FuncId := 19
abbrev f_spec_l00Src_pick : FuncId := 20
abbrev f_spec_l01Int : FuncId := 21
abbrev f_slices_ContainsFunc_impl_Value : FuncId := 22
abbrev f_impl_valuesOK_1 : FuncId := 23
abbrev f_impl_ofInt : FuncId := 24
abbrev f_impl_ofText : FuncId := 25
abbrev f_impl_valueText : FuncId := 26
abbrev f_impl_inBounds : FuncId := 27
abbrev f_impl_within : FuncId := 28
abbrev f_slices_Contains_string : FuncId := 29
abbrev f_impl_ofBool : FuncId := 30
abbrev f_impl_arithmetic : FuncId := 31
abbrev f_spec_l00Src_byte : FuncId := 32
abbrev f_spec_l01Bit : FuncId := 33
abbrev f_slices_IndexFunc_impl_Value : FuncId := 34
abbrev f_strconv_Itoa : FuncId := 35
abbrev f_strconv_FormatBool : FuncId := 36
abbrev f_slices_Index_string : FuncId := 37
abbrev f_internal_strconv_Itoa : FuncId := 38
abbrev f_internal_strconv_FormatBool : FuncId := 39
abbrev f_internal_strconv_FormatInt : FuncId := 40
abbrev f_internal_strconv_small : FuncId := 41
abbrev f_internal_strconv_numDigits : FuncId := 42
abbrev f_internal_strconv_formatBase10 : FuncId := 43
abbrev f_internal_strconv_formatBits : FuncId := 44
abbrev f_internal_strconv_log10Pow2 : FuncId := 45
abbrev f_math_bits_Len64 : FuncId := 46
abbrev f_internal_strconv_bool2_int : FuncId := 47
abbrev f_internal_strconv_isPowerOfTwo : FuncId := 48
abbrev f_math_bits_TrailingZeros : FuncId := 49
abbrev f_math_bits_TrailingZeros32 : FuncId := 50
abbrev f_math_bits_TrailingZeros64 : FuncId := 51
end Go.X
