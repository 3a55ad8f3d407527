/- Printed by gencf.py (mine): the resolved functions are the program's. -/
import Derived.Test.YtlliifjmnddckaaDoorXC1
import Derived.Test.YtlliifjmnddckaaDoorProg
import Derived.KernelRfl
namespace Go.X
open Go Go.Proofs
set_option maxRecDepth 100000
theorem S_laws_FnTexts : compF Tryd.prog (Flags.mk [5, 6, 9, 10, 11, 13, 15, 17] [(0, [0, 1]), (1, [0, 1, 26]), (2, [4]), (3, [1, 5]), (4, [1, 5, 6, 7]), (5, [1, 5, 6, 7, 37]), (6, [4]), (7, [5, 6, 7, 8]), (8, [5, 6, 7, 8, 9]), (9, [5, 6, 7, 9, 10]), (10, [5, 6, 7, 10, 11, 12]), (11, [5, 6, 7, 11, 12, 13, 14]), (12, [5, 6, 11, 13, 82]), (13, [4]), (14, [5, 6, 15, 16]), (15, [5, 15, 16, 18]), (16, [4])] [] false) f_laws_FnTexts = some c_laws_FnTexts := by kernel_rfl
theorem S_spec_ValueOf : compF Tryd.prog (Flags.mk [2] [(0, [0, 2]), (1, [2])] [] false) f_spec_ValueOf = some c_spec_ValueOf := by kernel_rfl
theorem S_impl_Builtin : compF Tryd.prog (Flags.mk [4] [(0, [0, 1, 4]), (1, [0, 1, 4, 6, 7]), (2, [0, 1, 4, 6, 7, 13]), (3, [4, 5]), (4, [0, 1, 4, 6, 7, 23]), (5, [4, 5]), (6, [0, 1, 4, 6, 28]), (7, [4, 5]), (8, [0, 1, 4, 32]), (9, [4, 5]), (10, [4, 5])] [] false) f_impl_Builtin = some c_impl_Builtin := by kernel_rfl
theorem S_laws_at : compF Tryd.prog (Flags.mk [] [(0, [0, 1, 2]), (1, [0, 1, 2, 8]), (2, [6]), (3, [0, 1, 2, 11]), (4, [6]), (5, [6])] [] false) f_laws_at = some c_laws_at := by kernel_rfl
theorem S_impl_Binary : compF Tryd.prog (Flags.mk [4, 5, 6] [(0, [0, 4, 5, 6]), (1, [0, 4, 5, 6, 8]), (2, [6, 7]), (3, [0, 4, 5, 6, 13]), (4, [6, 7]), (5, [0, 4, 5, 6, 23]), (6, [6, 7]), (7, [6, 7])] [] false) f_impl_Binary = some c_impl_Binary := by kernel_rfl
theorem S_spec_l00Source : compF Tryd.prog (Flags.mk [] [(0, [0]), (1, [2])] [] false) f_spec_l00Source = some c_spec_l00Source := by kernel_rfl
theorem S_spec_l00Src_value : compF Tryd.prog (Flags.mk [2] [(0, [0, 2]), (1, [0, 2, 4]), (2, [0, 2, 4, 5]), (3, [2]), (4, [0, 2, 4, 8]), (5, [2]), (6, [0, 2, 4, 13]), (7, [0, 2, 4, 13]), (8, [2]), (9, [0, 2, 22]), (10, [2]), (11, [2])] [] false) f_spec_l00Src_value = some c_spec_l00Src_value := by kernel_rfl
theorem S_impl_builtinKinds : compF Tryd.prog (Flags.mk [] [(0, [0]), (1, [4]), (2, [4, 5]), (3, [2, 3]), (4, [4, 8]), (5, [2, 3]), (6, [4, 11]), (7, [2, 3]), (8, [4, 14]), (9, [2, 3]), (10, [4, 17]), (11, [4, 17]), (12, [2, 3]), (13, [21]), (14, [2, 3]), (15, [2, 3])] [] false) f_impl_builtinKinds = some c_impl_builtinKinds := by kernel_rfl
theorem S_impl_valuesOK : compF Tryd.prog (Flags.mk [] [(0, [0]), (1, [2])] [] false) f_impl_valuesOK = some c_impl_valuesOK := by kernel_rfl
theorem S_impl_builtin : compF Tryd.prog (Flags.mk [4, 10] [(0, [0, 1, 4]), (1, [0, 1, 4, 6]), (2, [0, 1, 4, 18, 19, 20]), (3, [0, 1, 4, 18, 19, 20, 21]), (4, [0, 1, 4, 8, 9, 18, 19, 20]), (5, [0, 1, 4, 18, 19, 20, 35]), (6, [4, 5]), (7, [0, 1, 4, 18, 19, 20]), (8, [0, 1, 4, 10]), (9, [1, 4, 10, 41]), (10, [1, 4, 10, 41, 42]), (11, [4, 5]), (12, [1, 4, 10, 41, 48]), (13, [4, 5]), (14, [1, 4, 10, 41, 53]), (15, [4, 5]), (16, [1, 4, 10, 41, 64]), (17, [4, 5]), (18, [1, 4, 10, 41, 74]), (19, [4, 5]), (20, [1, 4, 10, 84]), (21, [1, 4, 10, 95]), (22, [4, 5]), (23, [4, 5]), (24, [4, 10, 11, 12]), (25, [4, 10, 11, 12, 128]), (26, [4, 5]), (27, [4, 5])] [(3, [0, 1, 4, 18, 19, 20])] false) f_impl_builtin = some c_impl_builtin := by kernel_rfl
theorem S_impl_ValueOK : compF Tryd.prog (Flags.mk [1] [(0, [1]), (1, [1, 4]), (2, [1, 4, 5]), (3, [2]), (4, [1, 4, 10]), (5, [2]), (6, [1, 4, 20]), (7, [2]), (8, [1, 30]), (9, [2]), (10, [2])] [] false) f_impl_ValueOK = some c_impl_ValueOK := by kernel_rfl
theorem S_impl_isBinary : compF Tryd.prog (Flags.mk [] [(0, [0]), (1, [2])] [] false) f_impl_isBinary = some c_impl_isBinary := by kernel_rfl
theorem S_impl_binary : compF Tryd.prog (Flags.mk [4, 5, 6] [(0, [0, 4, 5, 6]), (1, [0, 4, 5, 6, 8]), (2, [0, 4, 5, 6, 8, 17]), (3, [6, 7]), (4, [0, 4, 5, 6, 8, 24]), (5, [6, 7]), (6, [0, 4, 5, 6, 36]), (7, [4, 5, 6, 49]), (8, [6, 7]), (9, [6, 7]), (10, [0, 4, 5, 6, 57]), (11, [6, 7]), (12, [6, 7])] [] false) f_impl_binary = some c_impl_binary := by kernel_rfl
theorem S_spec_l00Src_next : compF Tryd.prog (Flags.mk [] [(0, [0, 1]), (1, [0, 1, 9]), (2, [4]), (3, [0, 1, 11]), (4, [4]), (5, [0, 1, 5]), (6, [0, 1, 5, 6]), (7, [1, 5, 6, 7]), (8, [4])] [] false) f_spec_l00Src_next = some c_spec_l00Src_next := by kernel_rfl
theorem S_spec_l01Bool : compF Tryd.prog (Flags.mk [2] [(0, [0, 2]), (1, [2])] [] false) f_spec_l01Bool = some c_spec_l01Bool := by kernel_rfl
theorem S_spec_l00Src_chance : compF Tryd.prog (Flags.mk [] [(0, [0, 1]), (1, [4])] [] false) f_spec_l00Src_chance = some c_spec_l00Src_chance := by kernel_rfl
theorem S_spec_l01Text : compF Tryd.prog (Flags.mk [2] [(0, [0, 2]), (1, [2])] [] false) f_spec_l01Text = some c_spec_l01Text := by kernel_rfl
theorem S_spec_l00Src_pick : compF Tryd.prog (Flags.mk [] [(0, [0, 1]), (1, [0, 1, 7]), (2, [4]), (3, [4])] [] false) f_spec_l00Src_pick = some c_spec_l00Src_pick := by kernel_rfl
theorem S_spec_l01Int : compF Tryd.prog (Flags.mk [2] [(0, [0, 2]), (1, [2])] [] false) f_spec_l01Int = some c_spec_l01Int := by kernel_rfl
theorem S_slices_ContainsFunc_impl_Value : compF Tryd.prog (Flags.mk [] [(0, [0, 1]), (1, [4])] [] false) f_slices_ContainsFunc_impl_Value = some c_slices_ContainsFunc_impl_Value := by kernel_rfl
theorem S_impl_valuesOK_1 : compF Tryd.prog (Flags.mk [1] [(0, [1]), (1, [2])] [] false) f_impl_valuesOK_1 = some c_impl_valuesOK_1 := by kernel_rfl
theorem S_impl_ofInt : compF Tryd.prog (Flags.mk [2] [(0, [0, 2]), (1, [2])] [] false) f_impl_ofInt = some c_impl_ofInt := by kernel_rfl
theorem S_impl_ofText : compF Tryd.prog (Flags.mk [2] [(0, [0, 2]), (1, [2])] [] false) f_impl_ofText = some c_impl_ofText := by kernel_rfl
theorem S_impl_valueText : compF Tryd.prog (Flags.mk [1] [(0, [1]), (1, [1, 4]), (2, [1, 4, 5]), (3, [2]), (4, [1, 4, 7]), (5, [2]), (6, [1, 12]), (7, [2]), (8, [2])] [] false) f_impl_valueText = some c_impl_valueText := by kernel_rfl
theorem S_impl_inBounds : compF Tryd.prog (Flags.mk [2] [(0, [0, 2]), (1, [0, 2, 6]), (2, [2, 3]), (3, [2, 3])] [] false) f_impl_inBounds = some c_impl_inBounds := by kernel_rfl
theorem S_impl_within : compF Tryd.prog (Flags.mk [] [(0, [0, 1, 2]), (1, [6])] [] false) f_impl_within = some c_impl_within := by kernel_rfl
theorem S_slices_Contains_string : compF Tryd.prog (Flags.mk [] [(0, [0, 1]), (1, [4])] [] false) f_slices_Contains_string = some c_slices_Contains_string := by kernel_rfl
theorem S_impl_ofBool : compF Tryd.prog (Flags.mk [2] [(0, [0, 2]), (1, [2, 3]), (2, [2]), (3, [2])] [] false) f_impl_ofBool = some c_impl_ofBool := by kernel_rfl
theorem S_impl_arithmetic : compF Tryd.prog (Flags.mk [6] [(0, [0, 1, 2, 6]), (1, [0, 1, 2, 6, 8]), (2, [0, 1, 2, 6, 8, 9]), (3, [6, 7]), (4, [0, 1, 2, 6, 8, 15]), (5, [6, 7]), (6, [0, 1, 2, 6, 8, 23]), (7, [6, 7]), (8, [0, 1, 2, 6, 31]), (9, [6, 7]), (10, [0, 1, 2, 6, 39]), (11, [6, 7]), (12, [1, 2, 6, 53]), (13, [6, 7]), (14, [6, 7])] [] false) f_impl_arithmetic = some c_impl_arithmetic := by kernel_rfl
theorem S_spec_l00Src_byte : compF Tryd.prog (Flags.mk [] [(0, [0]), (1, [0]), (2, [0, 19]), (3, [0]), (4, [2]), (5, [0, 59]), (6, [2]), (7, [0]), (8, [2])] [] false) f_spec_l00Src_byte = some c_spec_l00Src_byte := by kernel_rfl
theorem S_spec_l01Bit : compF Tryd.prog (Flags.mk [] [(0, [0]), (1, [3]), (2, [2]), (3, [2])] [] false) f_spec_l01Bit = some c_spec_l01Bit := by kernel_rfl
theorem S_slices_IndexFunc_impl_Value : compF Tryd.prog (Flags.mk [] [(0, [0, 1]), (1, [0, 1, 7, 8]), (2, [0, 1, 7, 8, 9]), (3, [0, 1, 5, 7, 8]), (4, [0, 1, 5, 7, 8, 16]), (5, [4]), (6, [0, 1, 7, 8]), (7, [4])] [(2, [0, 1, 7, 8])] false) f_slices_IndexFunc_impl_Value = some c_slices_IndexFunc_impl_Value := by kernel_rfl
theorem S_slices_Index_string : compF Tryd.prog (Flags.mk [] [(0, [0, 1]), (1, [0, 1, 7, 8]), (2, [0, 1, 7, 8, 9]), (3, [0, 1, 5, 7, 8]), (4, [0, 1, 5, 7, 8, 16]), (5, [4]), (6, [0, 1, 7, 8]), (7, [4])] [(2, [0, 1, 7, 8])] false) f_slices_Index_string = some c_slices_Index_string := by kernel_rfl
theorem CC_prog : ∀ f cf, CC f = some cf → ∃ fl, compF Tryd.prog fl f = some cf := by
  intro f cf h
  have key : ∀ x ∈ table, ∃ fl, compF Tryd.prog fl x.1 = some x.2 := by
    unfold table
    refine List.forall_mem_cons.2 ⟨⟨_, S_laws_FnTexts⟩, ?_⟩
    refine List.forall_mem_cons.2 ⟨⟨_, S_spec_ValueOf⟩, ?_⟩
    refine List.forall_mem_cons.2 ⟨⟨_, S_impl_Builtin⟩, ?_⟩
    refine List.forall_mem_cons.2 ⟨⟨_, S_laws_at⟩, ?_⟩
    refine List.forall_mem_cons.2 ⟨⟨_, S_impl_Binary⟩, ?_⟩
    refine List.forall_mem_cons.2 ⟨⟨_, S_spec_l00Source⟩, ?_⟩
    refine List.forall_mem_cons.2 ⟨⟨_, S_spec_l00Src_value⟩, ?_⟩
    refine List.forall_mem_cons.2 ⟨⟨_, S_impl_builtinKinds⟩, ?_⟩
    refine List.forall_mem_cons.2 ⟨⟨_, S_impl_valuesOK⟩, ?_⟩
    refine List.forall_mem_cons.2 ⟨⟨_, S_impl_builtin⟩, ?_⟩
    refine List.forall_mem_cons.2 ⟨⟨_, S_impl_ValueOK⟩, ?_⟩
    refine List.forall_mem_cons.2 ⟨⟨_, S_impl_isBinary⟩, ?_⟩
    refine List.forall_mem_cons.2 ⟨⟨_, S_impl_binary⟩, ?_⟩
    refine List.forall_mem_cons.2 ⟨⟨_, S_spec_l00Src_next⟩, ?_⟩
    refine List.forall_mem_cons.2 ⟨⟨_, S_spec_l01Bool⟩, ?_⟩
    refine List.forall_mem_cons.2 ⟨⟨_, S_spec_l00Src_chance⟩, ?_⟩
    refine List.forall_mem_cons.2 ⟨⟨_, S_spec_l01Text⟩, ?_⟩
    refine List.forall_mem_cons.2 ⟨⟨_, S_spec_l00Src_pick⟩, ?_⟩
    refine List.forall_mem_cons.2 ⟨⟨_, S_spec_l01Int⟩, ?_⟩
    refine List.forall_mem_cons.2 ⟨⟨_, S_slices_ContainsFunc_impl_Value⟩, ?_⟩
    refine List.forall_mem_cons.2 ⟨⟨_, S_impl_valuesOK_1⟩, ?_⟩
    refine List.forall_mem_cons.2 ⟨⟨_, S_impl_ofInt⟩, ?_⟩
    refine List.forall_mem_cons.2 ⟨⟨_, S_impl_ofText⟩, ?_⟩
    refine List.forall_mem_cons.2 ⟨⟨_, S_impl_valueText⟩, ?_⟩
    refine List.forall_mem_cons.2 ⟨⟨_, S_impl_inBounds⟩, ?_⟩
    refine List.forall_mem_cons.2 ⟨⟨_, S_impl_within⟩, ?_⟩
    refine List.forall_mem_cons.2 ⟨⟨_, S_slices_Contains_string⟩, ?_⟩
    refine List.forall_mem_cons.2 ⟨⟨_, S_impl_ofBool⟩, ?_⟩
    refine List.forall_mem_cons.2 ⟨⟨_, S_impl_arithmetic⟩, ?_⟩
    refine List.forall_mem_cons.2 ⟨⟨_, S_spec_l00Src_byte⟩, ?_⟩
    refine List.forall_mem_cons.2 ⟨⟨_, S_spec_l01Bit⟩, ?_⟩
    refine List.forall_mem_cons.2 ⟨⟨_, S_slices_IndexFunc_impl_Value⟩, ?_⟩
    refine List.forall_mem_cons.2 ⟨⟨_, S_slices_Index_string⟩, ?_⟩
    intro x hx; cases hx
  exact key _ (lk_mem h)
theorem mixed : Tryd.prog.follows .mixedOrders = true := by kernel_rfl
end Go.X
