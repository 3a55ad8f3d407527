/- Printed by gencf.py (mine): the resolved functions are the program's. -/
import Derived.Test.YtlliifjmnddckaaXC1
import Derived.Test.YtlliifjmnddckaaProg
import Derived.KernelRfl
namespace Go.X
open Go Go.Proofs
set_option maxRecDepth 100000
theorem S_laws_FnExactRoomOf : compF Try.prog (Flags.mk [1, 6] [(0, [1]), (1, [1, 3]), (2, [1, 3]), (3, [1, 13]), (4, [2]), (5, [1, 4, 5]), (6, [1, 4, 5, 6]), (7, [1, 4, 5, 6, 7, 8]), (8, [1, 6, 34]), (9, [2]), (10, [39]), (11, [2]), (12, [2])] [] false) f_laws_FnExactRoomOf = some c_laws_FnExactRoomOf := by kernel_rfl
theorem S_laws_FnExactWaitingOf : compF Try.prog (Flags.mk [1, 6] [(0, [1]), (1, [1, 3]), (2, [1, 3]), (3, [1, 18]), (4, [2]), (5, [1, 4, 5]), (6, [1, 4, 5, 6]), (7, [1, 4, 5, 6, 7, 8]), (8, [1, 4, 5, 6, 7, 8, 40]), (9, [2]), (10, [1, 4, 5, 6, 7, 8, 45]), (11, [2]), (12, [1, 4, 5, 6, 7, 8, 9]), (13, [1, 4, 5, 7, 8, 9]), (14, [1, 4, 5, 7, 61]), (15, [2]), (16, [1, 4, 5, 7, 10]), (17, [1, 4, 5, 7, 10]), (18, [1, 4, 5, 7, 10, 11]), (19, [1, 4, 5, 7, 10, 11]), (20, [1, 4, 5, 7, 10, 11, 69]), (21, [2]), (22, [1, 4, 5, 7, 10, 72]), (23, [2]), (24, [4, 5, 7, 10, 12, 13]), (25, [7, 10, 87]), (26, [2]), (27, [7, 10, 11]), (28, [10, 11]), (29, [10, 11, 92]), (30, [2]), (31, [95]), (32, [2]), (33, [2])] [] false) f_laws_FnExactWaitingOf = some c_laws_FnExactWaitingOf := by kernel_rfl
theorem S_laws_FnExactConnFlush : compF Try.prog (Flags.mk [1, 4, 8, 9, 16] [(0, [1]), (1, [1, 3]), (2, [1, 3]), (3, [1, 24]), (4, [2]), (5, [1, 4, 5, 6, 7]), (6, [1, 4, 5, 6, 7, 8]), (7, [1, 4, 5, 6, 7, 8, 9, 10, 11, 12]), (8, [1, 4, 5, 6, 7, 8, 9, 10, 11, 12, 60]), (9, [2]), (10, [1, 4, 5, 6, 7, 8, 9, 10, 11, 12, 65]), (11, [2]), (12, [1, 4, 5, 6, 7, 8, 9, 10, 11, 12, 13]), (13, [1, 4, 5, 6, 7, 9, 10, 11, 12, 13]), (14, [1, 4, 5, 6, 7, 9, 91]), (15, [2]), (16, [1, 4, 5, 6, 7, 9, 14]), (17, [1, 4, 5, 6, 7, 9, 14]), (18, [1, 4, 5, 6, 7, 9, 14, 15]), (19, [1, 4, 5, 6, 7, 9, 14, 15]), (20, [1, 4, 5, 6, 7, 9, 14, 15, 99]), (21, [2]), (22, [1, 4, 5, 6, 7, 9, 14, 102]), (23, [2]), (24, [4, 5, 6, 7, 9, 14, 16, 17, 18, 19]), (25, [9, 14, 129]), (26, [2]), (27, [9, 14, 15]), (28, [14, 15]), (29, [14, 15, 134]), (30, [2]), (31, [137]), (32, [2]), (33, [2])] [] false) f_laws_FnExactConnFlush = some c_laws_FnExactConnFlush := by kernel_rfl
theorem S_laws_FnExactConnTake : compF Try.prog (Flags.mk [2, 6, 8, 9, 14] [(0, [1, 2]), (1, [1, 2, 18]), (2, [4]), (3, [1, 2, 5]), (4, [1, 2, 5]), (5, [1, 2, 23]), (6, [4]), (7, [1, 2, 6, 7]), (8, [1, 2, 6, 7, 8]), (9, [1, 2, 6, 7, 8, 9, 10]), (10, [1, 2, 6, 7, 8, 9, 10, 47]), (11, [4]), (12, [1, 2, 6, 7, 8, 9, 10, 52]), (13, [4]), (14, [1, 2, 6, 7, 8, 9, 10, 11]), (15, [1, 2, 6, 7, 9, 10, 11]), (16, [1, 2, 6, 7, 9, 68]), (17, [4]), (18, [1, 2, 6, 7, 9, 12]), (19, [1, 2, 6, 7, 9, 12]), (20, [1, 2, 6, 7, 9, 12, 13]), (21, [1, 2, 6, 7, 9, 12, 13]), (22, [1, 2, 6, 7, 9, 12, 13, 76]), (23, [4]), (24, [1, 2, 6, 7, 9, 12, 79]), (25, [4]), (26, [6, 7, 9, 12, 14, 15]), (27, [9, 12, 95]), (28, [4]), (29, [9, 12, 13]), (30, [12, 13]), (31, [12, 13, 100]), (32, [4]), (33, [103]), (34, [4]), (35, [4])] [] false) f_laws_FnExactConnTake = some c_laws_FnExactConnTake := by kernel_rfl
theorem S_laws_FnExactConnReady : compF Try.prog (Flags.mk [3, 8, 10, 11, 16] [(0, [1, 2, 3]), (1, [1, 2, 3, 20]), (2, [6]), (3, [1, 2, 3, 7]), (4, [1, 2, 3, 7]), (5, [1, 2, 3, 25]), (6, [6]), (7, [1, 2, 3, 8, 9]), (8, [1, 2, 3, 8, 9, 10]), (9, [1, 2, 3, 8, 9, 10, 11, 12]), (10, [1, 2, 3, 8, 9, 10, 11, 12, 51]), (11, [6]), (12, [1, 2, 3, 8, 9, 10, 11, 12, 56]), (13, [6]), (14, [1, 2, 3, 8, 9, 10, 11, 12, 13]), (15, [1, 2, 3, 8, 9, 11, 12, 13]), (16, [1, 2, 3, 8, 9, 11, 72]), (17, [6]), (18, [1, 2, 3, 8, 9, 11, 14]), (19, [1, 2, 3, 8, 9, 11, 14]), (20, [1, 2, 3, 8, 9, 11, 14, 15]), (21, [1, 2, 3, 8, 9, 11, 14, 15]), (22, [1, 2, 3, 8, 9, 11, 14, 15, 80]), (23, [6]), (24, [1, 2, 3, 8, 9, 11, 14, 83]), (25, [6]), (26, [8, 9, 11, 14, 16, 17]), (27, [11, 14, 100]), (28, [6]), (29, [11, 14, 15]), (30, [14, 15]), (31, [14, 15, 105]), (32, [6]), (33, [108]), (34, [6]), (35, [6])] [] false) f_laws_FnExactConnReady = some c_laws_FnExactConnReady := by kernel_rfl
theorem S_laws_FnValues : compF Try.prog (Flags.mk [5, 6, 8, 10, 20, 22, 24, 26] [(0, [0, 1]), (1, [0, 1, 35]), (2, [4]), (3, [1, 5]), (4, [1, 5, 6]), (5, [5, 6, 7]), (6, [5, 6, 7, 8, 9]), (7, [5, 6, 8, 9, 10, 11]), (8, [5, 6, 8, 9, 10, 11, 12, 13]), (9, [5, 6, 8, 9, 10, 11, 12, 13, 14, 15]), (10, [5, 6, 8, 9, 10, 11, 12, 13, 14, 15, 16, 17]), (11, [5, 6, 8, 9, 10, 11, 12, 13, 14, 15, 16, 17, 18]), (12, [5, 6, 8, 9, 10, 11, 12, 13, 14, 15, 16, 17, 18, 20, 21]), (13, [5, 6, 8, 9, 10, 11, 12, 13, 14, 15, 16, 17, 18, 20, 21, 22]), (14, [5, 6, 151]), (15, [4]), (16, [5, 6, 159]), (17, [4]), (18, [5, 6, 24, 25]), (19, [5, 6, 24, 25, 167]), (20, [4]), (21, [5, 26, 27]), (22, [4])] [] false) f_laws_FnValues = some c_laws_FnValues := by kernel_rfl
theorem S_laws_eqConn : compF Try.prog (Flags.mk [2, 3] [(0, [2, 3]), (1, [2, 3, 9]), (2, [4]), (3, [2, 3, 14]), (4, [4]), (5, [2, 3, 19]), (6, [4]), (7, [2, 3, 25]), (8, [4]), (9, [30]), (10, [4]), (11, [4])] [] false) f_laws_eqConn = some c_laws_eqConn := by kernel_rfl
theorem S_laws_markConn : compF Try.prog (Flags.mk [2] [(0, [1, 2]), (1, [1]), (2, [4])] [] false) f_laws_markConn = some c_laws_markConn := by kernel_rfl
theorem S_laws_heldConn : compF Try.prog (Flags.mk [2] [(0, [1, 2]), (1, [1]), (2, [1, 10]), (3, [4]), (4, [4])] [] false) f_laws_heldConn = some c_laws_heldConn := by kernel_rfl
theorem S_laws_szConn : compF Try.prog (Flags.mk [2] [(0, [1, 2]), (1, [1, 2]), (2, [1, 2, 11]), (3, [4]), (4, [1]), (5, [1, 17]), (6, [4]), (7, [4])] [] false) f_laws_szConn = some c_laws_szConn := by kernel_rfl
theorem S_spec_RoomOf : compF Try.prog (Flags.mk [1] [(0, [1]), (1, [1, 6]), (2, [2, 3]), (3, [1, 13]), (4, [2, 3]), (5, [2, 3])] [] false) f_spec_RoomOf = some c_spec_RoomOf := by kernel_rfl
theorem S_laws_toConn : compF Try.prog (Flags.mk [1, 2, 3] [(0, [1, 2]), (1, [1, 2, 3]), (2, [1, 2, 3]), (3, [1, 2, 3]), (4, [1, 2, 3]), (5, [1, 2, 3]), (6, [2, 3]), (7, [2])] [] false) f_laws_toConn = some c_laws_toConn := by kernel_rfl
theorem S_impl_RoomOf : compF Try.prog (Flags.mk [] [(0, [1]), (1, [1, 4]), (2, [2, 3]), (3, [1, 8]), (4, [2, 3]), (5, [2, 3])] [] false) f_impl_RoomOf = some c_impl_RoomOf := by kernel_rfl
theorem S_spec_WaitingOf : compF Try.prog (Flags.mk [1, 32] [(0, [1]), (1, [1, 8]), (2, [2, 3]), (3, [1, 4]), (4, [1, 4, 5]), (5, [1, 4, 5, 15]), (6, [1, 4, 5]), (7, [1, 4, 5, 24]), (8, [1, 4, 5]), (9, [2, 3])] [(5, [1, 4, 5])] false) f_spec_WaitingOf = some c_spec_WaitingOf := by kernel_rfl
theorem S_impl_WaitingOf : compF Try.prog (Flags.mk [] [(0, [1]), (1, [1, 6]), (2, [2, 3]), (3, [2, 3])] [] false) f_impl_WaitingOf = some c_impl_WaitingOf := by kernel_rfl
theorem S_laws_eqIntS : compF Try.prog (Flags.mk [] [(0, [0, 1]), (1, [0, 1, 10]), (2, [4]), (3, [0, 1, 5]), (4, [0, 1, 5, 14]), (5, [0, 1, 5]), (6, [0, 1, 5, 25]), (7, [4]), (8, [4])] [(4, [0, 1, 5])] false) f_laws_eqIntS = some c_laws_eqIntS := by kernel_rfl
theorem S_laws_markIntS : compF Try.prog (Flags.mk [] [(0, [0, 1]), (1, [0, 1, 5]), (2, [0, 1, 5, 9]), (3, [0, 1, 5]), (4, [0, 1, 5]), (5, [0, 1, 5]), (6, [4])] [(2, [0, 1, 5])] false) f_laws_markIntS = some c_laws_markIntS := by kernel_rfl
theorem S_laws_heldIntS : compF Try.prog (Flags.mk [] [(0, [0, 1]), (1, [0, 1, 5]), (2, [0, 1, 5, 9]), (3, [0, 1, 5]), (4, [0, 1, 5, 17]), (5, [4]), (6, [0, 1, 5]), (7, [4])] [(2, [0, 1, 5])] false) f_laws_heldIntS = some c_laws_heldIntS := by kernel_rfl
theorem S_spec_ConnFlush : compF Try.prog (Flags.mk [1, 2, 6] [(0, [1, 2]), (1, [1, 2, 11]), (2, [2, 3, 4, 5]), (3, [2, 6, 7, 8]), (4, [2, 3, 4, 5])] [] false) f_spec_ConnFlush = some c_spec_ConnFlush := by kernel_rfl
theorem S_impl_ConnFlush : compF Try.prog (Flags.mk [1, 2] [(0, [1, 2]), (1, [1, 2, 11]), (2, [2, 3, 4, 5]), (3, [2, 6]), (4, [2, 6, 7, 8]), (5, [2, 3, 4, 5])] [] false) f_impl_ConnFlush = some c_impl_ConnFlush := by kernel_rfl
theorem S_spec_ConnTake : compF Try.prog (Flags.mk [2, 4, 6] [(0, [1, 2, 4]), (1, [1, 2, 4, 10]), (2, [4, 5]), (3, [1, 2, 4, 14]), (4, [4, 5]), (5, [4, 6, 7]), (6, [4, 5])] [] false) f_spec_ConnTake = some c_spec_ConnTake := by kernel_rfl
theorem S_impl_ConnTake : compF Try.prog (Flags.mk [2, 4] [(0, [1, 2, 4]), (1, [1, 2, 4, 8]), (2, [4, 5]), (3, [1, 2, 4, 13]), (4, [4, 5]), (5, [1, 4, 6]), (6, [4, 6, 7]), (7, [4, 5])] [] false) f_impl_ConnTake = some c_impl_ConnTake := by kernel_rfl
theorem S_spec_ConnReady : compF Try.prog (Flags.mk [3, 6, 8] [(0, [1, 2, 3, 6]), (1, [1, 2, 3, 6, 12]), (2, [6, 7]), (3, [1, 2, 3, 6, 16]), (4, [6, 7]), (5, [1, 2, 3, 6, 21]), (6, [6, 7]), (7, [6, 8, 9]), (8, [6, 7])] [] false) f_spec_ConnReady = some c_spec_ConnReady := by kernel_rfl
theorem S_impl_ConnReady : compF Try.prog (Flags.mk [3, 6] [(0, [1, 2, 3, 6]), (1, [1, 2, 3, 6, 10]), (2, [6, 7]), (3, [1, 2, 3, 6, 15]), (4, [6, 7]), (5, [1, 2, 3, 6, 20]), (6, [6, 7]), (7, [1, 2, 6, 8]), (8, [6, 8, 9]), (9, [6, 7])] [] false) f_impl_ConnReady = some c_impl_ConnReady := by kernel_rfl
theorem S_spec_ValueOf : compF Try.prog (Flags.mk [2] [(0, [0, 2]), (1, [2])] [] false) f_spec_ValueOf = some c_spec_ValueOf := by kernel_rfl
theorem S_spec_OpOf : compF Try.prog (Flags.mk [] [(0, [0]), (1, [2])] [] false) f_spec_OpOf = some c_spec_OpOf := by kernel_rfl
theorem S_impl_Binary : compF Try.prog (Flags.mk [4, 5, 6] [(0, [0, 4, 5, 6]), (1, [0, 4, 5, 6, 8]), (2, [6, 7]), (3, [0, 4, 5, 6, 13]), (4, [6, 7]), (5, [0, 4, 5, 6, 23]), (6, [6, 7]), (7, [6, 7])] [] false) f_impl_Binary = some c_impl_Binary := by kernel_rfl
theorem S_spec_Binary : compF Try.prog (Flags.mk [4, 5, 6] [(0, [0, 4, 5, 6]), (1, [0, 4, 5, 6, 10]), (2, [6, 7]), (3, [0, 4, 5, 6, 19]), (4, [6, 7]), (5, [0, 4, 5, 6, 23]), (6, [6, 7]), (7, [6, 7])] [] false) f_spec_Binary = some c_spec_Binary := by kernel_rfl
theorem S_impl_OrderValues : compF Try.prog (Flags.mk [2, 3] [(0, [2, 3]), (1, [2, 3, 13]), (2, [4, 5]), (3, [4, 5])] [] false) f_impl_OrderValues = some c_impl_OrderValues := by kernel_rfl
theorem S_impl_Truth : compF Try.prog (Flags.mk [1] [(0, [1]), (1, [1, 6]), (2, [2, 3]), (3, [2, 3])] [] false) f_impl_Truth = some c_impl_Truth := by kernel_rfl
theorem S_spec_Truth : compF Try.prog (Flags.mk [1] [(0, [1]), (1, [1, 6]), (2, [2, 3]), (3, [2, 3])] [] false) f_spec_Truth = some c_spec_Truth := by kernel_rfl
theorem S_impl_Unary : compF Try.prog (Flags.mk [3, 4] [(0, [0, 3, 4]), (1, [0, 3, 4, 6]), (2, [4, 5]), (3, [0, 3, 4, 11]), (4, [4, 5]), (5, [0, 3, 4, 16]), (6, [4, 5]), (7, [4, 5])] [] false) f_impl_Unary = some c_impl_Unary := by kernel_rfl
theorem S_spec_Unary : compF Try.prog (Flags.mk [3, 4] [(0, [0, 3, 4]), (1, [0, 3, 4, 8]), (2, [4, 5]), (3, [0, 3, 4, 12]), (4, [4, 5]), (5, [0, 3, 4, 19]), (6, [4, 5]), (7, [4, 5])] [] false) f_spec_Unary = some c_spec_Unary := by kernel_rfl
theorem S_impl_ValueOK : compF Try.prog (Flags.mk [1] [(0, [1]), (1, [1, 4]), (2, [1, 4, 5]), (3, [2]), (4, [1, 4, 10]), (5, [2]), (6, [1, 4, 20]), (7, [2]), (8, [1, 30]), (9, [2]), (10, [2])] [] false) f_impl_ValueOK = some c_impl_ValueOK := by kernel_rfl
theorem S_laws_eqSlotS : compF Try.prog (Flags.mk [] [(0, [0, 1]), (1, [0, 1, 10]), (2, [4]), (3, [0, 1, 5]), (4, [0, 1, 5, 14]), (5, [0, 1, 5]), (6, [0, 1, 5, 26]), (7, [4]), (8, [4])] [(4, [0, 1, 5])] false) f_laws_eqSlotS = some c_laws_eqSlotS := by kernel_rfl
theorem S_laws_markSlotS : compF Try.prog (Flags.mk [] [(0, [0, 1]), (1, [0, 1, 5]), (2, [0, 1, 5, 9]), (3, [0, 1, 5]), (4, [0, 1, 5]), (5, [0, 1, 5]), (6, [0, 1, 5]), (7, [0, 1, 5]), (8, [0, 1, 5]), (9, [0, 1, 5]), (10, [4])] [(2, [0, 1, 5])] false) f_laws_markSlotS = some c_laws_markSlotS := by kernel_rfl
theorem S_laws_heldSlotS : compF Try.prog (Flags.mk [] [(0, [0, 1]), (1, [0, 1, 5]), (2, [0, 1, 5, 9]), (3, [0, 1, 5]), (4, [0, 1, 5, 18]), (5, [4]), (6, [0, 1, 5]), (7, [0, 1, 5, 29]), (8, [4]), (9, [0, 1, 5]), (10, [0, 1, 5, 39]), (11, [4]), (12, [0, 1, 5]), (13, [4])] [(2, [0, 1, 5])] false) f_laws_heldSlotS = some c_laws_heldSlotS := by kernel_rfl
theorem S_laws_szSlotS : compF Try.prog (Flags.mk [] [(0, [0, 1]), (1, [0, 1]), (2, [0, 1, 11]), (3, [4]), (4, [0, 1, 5]), (5, [0, 1, 5, 15]), (6, [0, 1, 5]), (7, [0, 1, 5]), (8, [0, 1, 5, 25]), (9, [4]), (10, [4])] [(5, [0, 1, 5])] false) f_laws_szSlotS = some c_laws_szSlotS := by kernel_rfl
theorem S_spec_ConnOK : compF Try.prog (Flags.mk [1, 4] [(0, [1]), (1, [1, 20]), (2, [2]), (3, [1, 23]), (4, [2]), (5, [1, 3]), (6, [1, 3, 42]), (7, [1, 3]), (8, [1, 3, 4]), (9, [1, 3, 86]), (10, [2]), (11, [2])] [(6, [1, 3])] false) f_spec_ConnOK = some c_spec_ConnOK := by kernel_rfl
theorem S_laws_toSlotS : compF Try.prog (Flags.mk [] [(0, [0]), (1, [0, 3]), (2, [0, 3, 4]), (3, [0, 3, 4, 11]), (4, [0, 3, 4]), (5, [0, 3, 4]), (6, [2])] [(3, [0, 3, 4])] false) f_laws_toSlotS = some c_laws_toSlotS := by kernel_rfl
theorem S_impl_ConnOK : compF Try.prog (Flags.mk [1, 4] [(0, [1]), (1, [1, 20]), (2, [2]), (3, [1, 47]), (4, [2]), (5, [1, 49, 50, 51]), (6, [1, 49, 50, 51, 52]), (7, [1, 3, 4, 49, 50, 51]), (8, [1, 4, 49, 50, 51, 78]), (9, [2]), (10, [1, 49, 50, 51, 97]), (11, [2]), (12, [1, 49, 50, 51]), (13, [2])] [(6, [1, 49, 50, 51])] false) f_impl_ConnOK = some c_impl_ConnOK := by kernel_rfl
theorem S_impl_Conn_shut : compF Try.prog (Flags.mk [] [(0, [0]), (1, [2])] [] false) f_impl_Conn_shut = some c_impl_Conn_shut := by kernel_rfl
theorem S_impl_Conn_waits : compF Try.prog (Flags.mk [5, 22] [(0, [0]), (1, [0, 3]), (2, [3, 10, 11, 12]), (3, [3, 10, 11, 12, 13]), (4, [3, 5, 10, 11, 12]), (5, [3, 5, 10, 11, 12, 18]), (6, [3, 10, 11, 12]), (7, [3, 10, 11, 12]), (8, [2])] [(3, [3, 10, 11, 12])] false) f_impl_Conn_waits = some c_impl_Conn_waits := by kernel_rfl
theorem S_spec_l10Flush : compF Try.prog (Flags.mk [1, 2] [(0, [1, 2]), (1, [1, 2, 5]), (2, [1, 2, 5, 6]), (3, [1, 2, 5, 6, 19]), (4, [1, 2, 5, 6]), (5, [1, 2, 5, 6]), (6, [1, 2, 5]), (7, [1, 2, 5, 48]), (8, [2, 3, 4]), (9, [2, 3, 4])] [(3, [1, 2, 5, 6])] false) f_spec_l10Flush = some c_spec_l10Flush := by kernel_rfl
theorem S_spec_l10Own : compF Try.prog (Flags.mk [1, 2] [(0, [1, 2]), (1, [1, 2]), (2, [2])] [] false) f_spec_l10Own = some c_spec_l10Own := by kernel_rfl
theorem S_impl_cloneConn : compF Try.prog (Flags.mk [1, 2] [(0, [1, 2]), (1, [1, 2]), (2, [2])] [] false) f_impl_cloneConn = some c_impl_cloneConn := by kernel_rfl
theorem S_impl_Conn_flush : compF Try.prog (Flags.mk [] [(0, [0]), (1, [0, 4]), (2, [0, 4, 19]), (3, [0, 4]), (4, [0, 4]), (5, [0, 4]), (6, [0, 4, 56]), (7, [4]), (8, [2, 3]), (9, [2, 3])] [(2, [0, 4])] false) f_impl_Conn_flush = some c_impl_Conn_flush := by kernel_rfl
theorem S_spec_l10Take : compF Try.prog (Flags.mk [2, 4] [(0, [1, 2, 4]), (1, [1, 2, 4, 12]), (2, [4, 5]), (3, [1, 2, 4, 20]), (4, [4, 5]), (5, [2, 4]), (6, [4, 5])] [] false) f_spec_l10Take = some c_spec_l10Take := by kernel_rfl
theorem S_impl_Conn_take : compF Try.prog (Flags.mk [] [(0, [0, 1]), (1, [0, 1, 5]), (2, [4]), (3, [0, 1, 8]), (4, [4]), (5, []), (6, [4])] [] false) f_impl_Conn_take = some c_impl_Conn_take := by kernel_rfl
theorem S_spec_l01In : compF Try.prog (Flags.mk [] [(0, [0, 1, 2]), (1, [6])] [] false) f_spec_l01In = some c_spec_l01In := by kernel_rfl
theorem S_spec_l10Ready : compF Try.prog (Flags.mk [3, 6] [(0, [1, 2, 3, 6]), (1, [1, 2, 3, 6, 8]), (2, [1, 2, 3, 6, 8, 13]), (3, [1, 2, 3, 6, 8]), (4, [1, 2, 3, 6, 8, 23]), (5, [2, 3, 6, 8, 29]), (6, [6, 7]), (7, [2, 3, 6, 8]), (8, [2, 3, 6, 8]), (9, [3, 6]), (10, [6, 7]), (11, [6, 7])] [(2, [1, 2, 3, 6, 8])] false) f_spec_l10Ready = some c_spec_l10Ready := by kernel_rfl
theorem S_impl_within : compF Try.prog (Flags.mk [] [(0, [0, 1, 2]), (1, [6])] [] false) f_impl_within = some c_impl_within := by kernel_rfl
theorem S_impl_Conn_ready : compF Try.prog (Flags.mk [] [(0, [0, 2, 4]), (1, [0, 2, 7]), (2, [0, 2, 7, 14]), (3, [6]), (4, [0, 2, 7, 17]), (5, [6]), (6, []), (7, [6])] [] false) f_impl_Conn_ready = some c_impl_Conn_ready := by kernel_rfl
theorem S_spec_l00Source : compF Try.prog (Flags.mk [] [(0, [0]), (1, [2])] [] false) f_spec_l00Source = some c_spec_l00Source := by kernel_rfl
theorem S_spec_l00Src_value : compF Try.prog (Flags.mk [2] [(0, [0, 2]), (1, [0, 2, 4]), (2, [0, 2, 4, 5]), (3, [2]), (4, [0, 2, 4, 8]), (5, [2]), (6, [0, 2, 4, 13]), (7, [0, 2, 4, 13]), (8, [2]), (9, [0, 2, 22]), (10, [2]), (11, [2])] [] false) f_spec_l00Src_value = some c_spec_l00Src_value := by kernel_rfl
theorem S_spec_l00Src_op : compF Try.prog (Flags.mk [] [(0, [0]), (1, [2])] [] false) f_spec_l00Src_op = some c_spec_l00Src_op := by kernel_rfl
theorem S_impl_isBinary : compF Try.prog (Flags.mk [] [(0, [0]), (1, [2])] [] false) f_impl_isBinary = some c_impl_isBinary := by kernel_rfl
theorem S_impl_binary : compF Try.prog (Flags.mk [4, 5, 6] [(0, [0, 4, 5, 6]), (1, [0, 4, 5, 6, 8]), (2, [0, 4, 5, 6, 8, 17]), (3, [6, 7]), (4, [0, 4, 5, 6, 8, 24]), (5, [6, 7]), (6, [0, 4, 5, 6, 36]), (7, [4, 5, 6, 49]), (8, [6, 7]), (9, [6, 7]), (10, [0, 4, 5, 6, 57]), (11, [6, 7]), (12, [6, 7])] [] false) f_impl_binary = some c_impl_binary := by kernel_rfl
theorem S_spec_ValueOK : compF Try.prog (Flags.mk [1] [(0, [1]), (1, [1, 4]), (2, [1, 4, 5]), (3, [2]), (4, [1, 4, 15]), (5, [2]), (6, [1, 4, 25]), (7, [2]), (8, [1, 35]), (9, [2]), (10, [2])] [] false) f_spec_ValueOK = some c_spec_ValueOK := by kernel_rfl
theorem S_spec_l01Op : compF Try.prog (Flags.mk [] [(0, [0]), (1, [2])] [] false) f_spec_l01Op = some c_spec_l01Op := by kernel_rfl
theorem S_spec_l01Binary : compF Try.prog (Flags.mk [4, 5, 6] [(0, [0, 4, 5, 6]), (1, [0, 4, 5, 6, 9]), (2, [6, 7]), (3, [0, 4, 5, 6, 29]), (4, [4, 5, 6, 31]), (5, [6, 7]), (6, [4, 5, 6, 45]), (7, [6, 7]), (8, [6, 7]), (9, [0, 4, 5, 6, 60]), (10, [6, 7]), (11, [0, 4, 5, 6, 62]), (12, [0, 4, 5, 6, 62, 63]), (13, [6, 7]), (14, [0, 4, 5, 6, 62, 71]), (15, [6, 7]), (16, [0, 4, 5, 6, 62, 81]), (17, [6, 7]), (18, [0, 4, 5, 6, 91]), (19, [6, 7]), (20, [0, 4, 5, 6, 115]), (21, [6, 7]), (22, [4, 5, 6, 118]), (23, [6, 7]), (24, [6, 7])] [] false) f_spec_l01Binary = some c_spec_l01Binary := by kernel_rfl
theorem S_cmp_Or_int : compF Try.prog (Flags.mk [] [(0, [0]), (1, [0, 3]), (2, [3, 6, 7, 8]), (3, [3, 6, 7, 8, 9]), (4, [3, 5, 6, 7, 8]), (5, [3, 5, 6, 7, 8, 14]), (6, [2]), (7, [3, 6, 7, 8]), (8, [2])] [(3, [3, 6, 7, 8])] false) f_cmp_Or_int = some c_cmp_Or_int := by kernel_rfl
theorem S_cmp_Compare_int : compF Try.prog (Flags.mk [] [(0, [0, 1]), (1, [0, 1, 5]), (2, [0, 1, 5, 6]), (3, [0, 1, 6, 11]), (4, [12]), (5, [4]), (6, [4]), (7, [0, 1, 13]), (8, [4]), (9, [0, 1, 16]), (10, [4]), (11, [19]), (12, [4]), (13, [4])] [] false) f_cmp_Compare_int = some c_cmp_Compare_int := by kernel_rfl
theorem S_cmp_Compare_string : compF Try.prog (Flags.mk [] [(0, [0, 1]), (1, [0, 1, 5]), (2, [0, 1, 5, 6]), (3, [0, 1, 6, 11]), (4, [12]), (5, [4]), (6, [4]), (7, [0, 1, 13]), (8, [4]), (9, [0, 1, 16]), (10, [4]), (11, [19]), (12, [4]), (13, [4])] [] false) f_cmp_Compare_string = some c_cmp_Compare_string := by kernel_rfl
theorem S_impl_truth : compF Try.prog (Flags.mk [1] [(0, [1]), (1, [2])] [] false) f_impl_truth = some c_impl_truth := by kernel_rfl
theorem S_spec_l01Truth : compF Try.prog (Flags.mk [1] [(0, [1]), (1, [2])] [] false) f_spec_l01Truth = some c_spec_l01Truth := by kernel_rfl
theorem S_impl_isUnary : compF Try.prog (Flags.mk [] [(0, [0]), (1, [2])] [] false) f_impl_isUnary = some c_impl_isUnary := by kernel_rfl
theorem S_impl_unary : compF Try.prog (Flags.mk [3, 4] [(0, [0, 3, 4]), (1, [3, 4, 6]), (2, [4, 5]), (3, [3, 4, 13]), (4, [4, 5]), (5, [4, 5])] [] false) f_impl_unary = some c_impl_unary := by kernel_rfl
theorem S_spec_l01Unary : compF Try.prog (Flags.mk [3, 4] [(0, [0, 3, 4]), (1, [3, 4, 7]), (2, [4, 5]), (3, [3, 4, 14]), (4, [4, 5]), (5, [4, 5])] [] false) f_spec_l01Unary = some c_spec_l01Unary := by kernel_rfl
theorem S_laws_eqSlot : compF Try.prog (Flags.mk [2, 3] [(0, [2, 3]), (1, [2, 3, 9]), (2, [4]), (3, [2, 3, 14]), (4, [4]), (5, [19]), (6, [4]), (7, [4])] [] false) f_laws_eqSlot = some c_laws_eqSlot := by kernel_rfl
theorem S_laws_markText : compF Try.prog (Flags.mk [] [(0, [0]), (1, [0, 5]), (2, [2]), (3, [0, 3]), (4, [0, 3, 7]), (5, [0, 3]), (6, [0, 3]), (7, [2])] [(4, [0, 3])] true) f_laws_markText = some c_laws_markText := by kernel_rfl
theorem S_laws_szSlot : compF Try.prog (Flags.mk [2] [(0, [1, 2]), (1, [1]), (2, [1, 11]), (3, [4]), (4, [4])] [] false) f_laws_szSlot = some c_laws_szSlot := by kernel_rfl
theorem S_laws_toSlot : compF Try.prog (Flags.mk [1, 2, 3] [(0, [1, 2]), (1, [1, 2, 3]), (2, [1, 2, 3]), (3, [1, 2, 3]), (4, [2, 3]), (5, [2])] [] false) f_laws_toSlot = some c_laws_toSlot := by kernel_rfl
theorem S_slices_Clone_impl_Slot : compF Try.prog (Flags.mk [] [(0, [0]), (1, [0, 4]), (2, [2]), (3, [2])] [] false) f_slices_Clone_impl_Slot = some c_slices_Clone_impl_Slot := by kernel_rfl
theorem S_slices_IndexFunc_impl_Slot : compF Try.prog (Flags.mk [] [(0, [0, 1]), (1, [0, 1, 7, 8]), (2, [0, 1, 7, 8, 9]), (3, [0, 1, 5, 7, 8]), (4, [0, 1, 5, 7, 8, 16]), (5, [4]), (6, [0, 1, 7, 8]), (7, [4])] [(2, [0, 1, 7, 8])] false) f_slices_IndexFunc_impl_Slot = some c_slices_IndexFunc_impl_Slot := by kernel_rfl
theorem S_impl_Conn_ready_1 : compF Try.prog (Flags.mk [2] [(0, [1, 2]), (1, [3])] [] false) f_impl_Conn_ready_1 = some c_impl_Conn_ready_1 := by kernel_rfl
theorem S_spec_l00Src_next : compF Try.prog (Flags.mk [] [(0, [0, 1]), (1, [0, 1, 9]), (2, [4]), (3, [0, 1, 11]), (4, [4]), (5, [0, 1, 5]), (6, [0, 1, 5, 6]), (7, [1, 5, 6, 7]), (8, [4])] [] false) f_spec_l00Src_next = some c_spec_l00Src_next := by kernel_rfl
theorem S_spec_l01Bool : compF Try.prog (Flags.mk [2] [(0, [0, 2]), (1, [2])] [] false) f_spec_l01Bool = some c_spec_l01Bool := by kernel_rfl
theorem S_spec_l00Src_chance : compF Try.prog (Flags.mk [] [(0, [0, 1]), (1, [4])] [] false) f_spec_l00Src_chance = some c_spec_l00Src_chance := by kernel_rfl
theorem S_spec_l01Text : compF Try.prog (Flags.mk [2] [(0, [0, 2]), (1, [2])] [] false) f_spec_l01Text = some c_spec_l01Text := by kernel_rfl
theorem S_spec_l00Src_pick : compF Try.prog (Flags.mk [] [(0, [0, 1]), (1, [0, 1, 7]), (2, [4]), (3, [4])] [] false) f_spec_l00Src_pick = some c_spec_l00Src_pick := by kernel_rfl
theorem S_spec_l01Int : compF Try.prog (Flags.mk [2] [(0, [0, 2]), (1, [2])] [] false) f_spec_l01Int = some c_spec_l01Int := by kernel_rfl
theorem S_slices_Contains_string : compF Try.prog (Flags.mk [] [(0, [0, 1]), (1, [4])] [] false) f_slices_Contains_string = some c_slices_Contains_string := by kernel_rfl
theorem S_impl_ofBool : compF Try.prog (Flags.mk [2] [(0, [0, 2]), (1, [2, 3]), (2, [2]), (3, [2])] [] false) f_impl_ofBool = some c_impl_ofBool := by kernel_rfl
theorem S_impl_ofText : compF Try.prog (Flags.mk [2] [(0, [0, 2]), (1, [2])] [] false) f_impl_ofText = some c_impl_ofText := by kernel_rfl
theorem S_impl_arithmetic : compF Try.prog (Flags.mk [6] [(0, [0, 1, 2, 6]), (1, [0, 1, 2, 6, 8]), (2, [0, 1, 2, 6, 8, 9]), (3, [6, 7]), (4, [0, 1, 2, 6, 8, 15]), (5, [6, 7]), (6, [0, 1, 2, 6, 8, 23]), (7, [6, 7]), (8, [0, 1, 2, 6, 31]), (9, [6, 7]), (10, [0, 1, 2, 6, 39]), (11, [6, 7]), (12, [1, 2, 6, 53]), (13, [6, 7]), (14, [6, 7])] [] false) f_impl_arithmetic = some c_impl_arithmetic := by kernel_rfl
theorem S_spec_l01Fit : compF Try.prog (Flags.mk [2] [(0, [0, 2]), (1, [0, 2, 6]), (2, [2, 3]), (3, [2, 3])] [] false) f_spec_l01Fit = some c_spec_l01Fit := by kernel_rfl
theorem S_cmp_isNaN_int : compF Try.prog (Flags.mk [] [(0, [0]), (1, [2])] [] false) f_cmp_isNaN_int = some c_cmp_isNaN_int := by kernel_rfl
theorem S_cmp_isNaN_string : compF Try.prog (Flags.mk [] [(0, [0]), (1, [2])] [] false) f_cmp_isNaN_string = some c_cmp_isNaN_string := by kernel_rfl
theorem S_impl_inBounds : compF Try.prog (Flags.mk [2] [(0, [0, 2]), (1, [0, 2, 6]), (2, [2, 3]), (3, [2, 3])] [] false) f_impl_inBounds = some c_impl_inBounds := by kernel_rfl
theorem S_spec_l00Src_byte : compF Try.prog (Flags.mk [] [(0, [0]), (1, [0]), (2, [0, 19]), (3, [0]), (4, [2]), (5, [0, 59]), (6, [2]), (7, [0]), (8, [2])] [] false) f_spec_l00Src_byte = some c_spec_l00Src_byte := by kernel_rfl
theorem S_spec_l01Bit : compF Try.prog (Flags.mk [] [(0, [0]), (1, [3]), (2, [2]), (3, [2])] [] false) f_spec_l01Bit = some c_spec_l01Bit := by kernel_rfl
theorem S_slices_Index_string : compF Try.prog (Flags.mk [] [(0, [0, 1]), (1, [0, 1, 7, 8]), (2, [0, 1, 7, 8, 9]), (3, [0, 1, 5, 7, 8]), (4, [0, 1, 5, 7, 8, 16]), (5, [4]), (6, [0, 1, 7, 8]), (7, [4])] [(2, [0, 1, 7, 8])] false) f_slices_Index_string = some c_slices_Index_string := by kernel_rfl
theorem S_impl_ofInt : compF Try.prog (Flags.mk [2] [(0, [0, 2]), (1, [2])] [] false) f_impl_ofInt = some c_impl_ofInt := by kernel_rfl
theorem CC_prog : ∀ f cf, CC f = some cf → ∃ fl, compF Try.prog fl f = some cf := by
  intro f cf h
  have key : ∀ x ∈ table, ∃ fl, compF Try.prog fl x.1 = some x.2 := by
    unfold table
    refine List.forall_mem_cons.2 ⟨⟨_, S_laws_FnExactRoomOf⟩, ?_⟩
    refine List.forall_mem_cons.2 ⟨⟨_, S_laws_FnExactWaitingOf⟩, ?_⟩
    refine List.forall_mem_cons.2 ⟨⟨_, S_laws_FnExactConnFlush⟩, ?_⟩
    refine List.forall_mem_cons.2 ⟨⟨_, S_laws_FnExactConnTake⟩, ?_⟩
    refine List.forall_mem_cons.2 ⟨⟨_, S_laws_FnExactConnReady⟩, ?_⟩
    refine List.forall_mem_cons.2 ⟨⟨_, S_laws_FnValues⟩, ?_⟩
    refine List.forall_mem_cons.2 ⟨⟨_, S_laws_eqConn⟩, ?_⟩
    refine List.forall_mem_cons.2 ⟨⟨_, S_laws_markConn⟩, ?_⟩
    refine List.forall_mem_cons.2 ⟨⟨_, S_laws_heldConn⟩, ?_⟩
    refine List.forall_mem_cons.2 ⟨⟨_, S_laws_szConn⟩, ?_⟩
    refine List.forall_mem_cons.2 ⟨⟨_, S_spec_RoomOf⟩, ?_⟩
    refine List.forall_mem_cons.2 ⟨⟨_, S_laws_toConn⟩, ?_⟩
    refine List.forall_mem_cons.2 ⟨⟨_, S_impl_RoomOf⟩, ?_⟩
    refine List.forall_mem_cons.2 ⟨⟨_, S_spec_WaitingOf⟩, ?_⟩
    refine List.forall_mem_cons.2 ⟨⟨_, S_impl_WaitingOf⟩, ?_⟩
    refine List.forall_mem_cons.2 ⟨⟨_, S_laws_eqIntS⟩, ?_⟩
    refine List.forall_mem_cons.2 ⟨⟨_, S_laws_markIntS⟩, ?_⟩
    refine List.forall_mem_cons.2 ⟨⟨_, S_laws_heldIntS⟩, ?_⟩
    refine List.forall_mem_cons.2 ⟨⟨_, S_spec_ConnFlush⟩, ?_⟩
    refine List.forall_mem_cons.2 ⟨⟨_, S_impl_ConnFlush⟩, ?_⟩
    refine List.forall_mem_cons.2 ⟨⟨_, S_spec_ConnTake⟩, ?_⟩
    refine List.forall_mem_cons.2 ⟨⟨_, S_impl_ConnTake⟩, ?_⟩
    refine List.forall_mem_cons.2 ⟨⟨_, S_spec_ConnReady⟩, ?_⟩
    refine List.forall_mem_cons.2 ⟨⟨_, S_impl_ConnReady⟩, ?_⟩
    refine List.forall_mem_cons.2 ⟨⟨_, S_spec_ValueOf⟩, ?_⟩
    refine List.forall_mem_cons.2 ⟨⟨_, S_spec_OpOf⟩, ?_⟩
    refine List.forall_mem_cons.2 ⟨⟨_, S_impl_Binary⟩, ?_⟩
    refine List.forall_mem_cons.2 ⟨⟨_, S_spec_Binary⟩, ?_⟩
    refine List.forall_mem_cons.2 ⟨⟨_, S_impl_OrderValues⟩, ?_⟩
    refine List.forall_mem_cons.2 ⟨⟨_, S_impl_Truth⟩, ?_⟩
    refine List.forall_mem_cons.2 ⟨⟨_, S_spec_Truth⟩, ?_⟩
    refine List.forall_mem_cons.2 ⟨⟨_, S_impl_Unary⟩, ?_⟩
    refine List.forall_mem_cons.2 ⟨⟨_, S_spec_Unary⟩, ?_⟩
    refine List.forall_mem_cons.2 ⟨⟨_, S_impl_ValueOK⟩, ?_⟩
    refine List.forall_mem_cons.2 ⟨⟨_, S_laws_eqSlotS⟩, ?_⟩
    refine List.forall_mem_cons.2 ⟨⟨_, S_laws_markSlotS⟩, ?_⟩
    refine List.forall_mem_cons.2 ⟨⟨_, S_laws_heldSlotS⟩, ?_⟩
    refine List.forall_mem_cons.2 ⟨⟨_, S_laws_szSlotS⟩, ?_⟩
    refine List.forall_mem_cons.2 ⟨⟨_, S_spec_ConnOK⟩, ?_⟩
    refine List.forall_mem_cons.2 ⟨⟨_, S_laws_toSlotS⟩, ?_⟩
    refine List.forall_mem_cons.2 ⟨⟨_, S_impl_ConnOK⟩, ?_⟩
    refine List.forall_mem_cons.2 ⟨⟨_, S_impl_Conn_shut⟩, ?_⟩
    refine List.forall_mem_cons.2 ⟨⟨_, S_impl_Conn_waits⟩, ?_⟩
    refine List.forall_mem_cons.2 ⟨⟨_, S_spec_l10Flush⟩, ?_⟩
    refine List.forall_mem_cons.2 ⟨⟨_, S_spec_l10Own⟩, ?_⟩
    refine List.forall_mem_cons.2 ⟨⟨_, S_impl_cloneConn⟩, ?_⟩
    refine List.forall_mem_cons.2 ⟨⟨_, S_impl_Conn_flush⟩, ?_⟩
    refine List.forall_mem_cons.2 ⟨⟨_, S_spec_l10Take⟩, ?_⟩
    refine List.forall_mem_cons.2 ⟨⟨_, S_impl_Conn_take⟩, ?_⟩
    refine List.forall_mem_cons.2 ⟨⟨_, S_spec_l01In⟩, ?_⟩
    refine List.forall_mem_cons.2 ⟨⟨_, S_spec_l10Ready⟩, ?_⟩
    refine List.forall_mem_cons.2 ⟨⟨_, S_impl_within⟩, ?_⟩
    refine List.forall_mem_cons.2 ⟨⟨_, S_impl_Conn_ready⟩, ?_⟩
    refine List.forall_mem_cons.2 ⟨⟨_, S_spec_l00Source⟩, ?_⟩
    refine List.forall_mem_cons.2 ⟨⟨_, S_spec_l00Src_value⟩, ?_⟩
    refine List.forall_mem_cons.2 ⟨⟨_, S_spec_l00Src_op⟩, ?_⟩
    refine List.forall_mem_cons.2 ⟨⟨_, S_impl_isBinary⟩, ?_⟩
    refine List.forall_mem_cons.2 ⟨⟨_, S_impl_binary⟩, ?_⟩
    refine List.forall_mem_cons.2 ⟨⟨_, S_spec_ValueOK⟩, ?_⟩
    refine List.forall_mem_cons.2 ⟨⟨_, S_spec_l01Op⟩, ?_⟩
    refine List.forall_mem_cons.2 ⟨⟨_, S_spec_l01Binary⟩, ?_⟩
    refine List.forall_mem_cons.2 ⟨⟨_, S_cmp_Or_int⟩, ?_⟩
    refine List.forall_mem_cons.2 ⟨⟨_, S_cmp_Compare_int⟩, ?_⟩
    refine List.forall_mem_cons.2 ⟨⟨_, S_cmp_Compare_string⟩, ?_⟩
    refine List.forall_mem_cons.2 ⟨⟨_, S_impl_truth⟩, ?_⟩
    refine List.forall_mem_cons.2 ⟨⟨_, S_spec_l01Truth⟩, ?_⟩
    refine List.forall_mem_cons.2 ⟨⟨_, S_impl_isUnary⟩, ?_⟩
    refine List.forall_mem_cons.2 ⟨⟨_, S_impl_unary⟩, ?_⟩
    refine List.forall_mem_cons.2 ⟨⟨_, S_spec_l01Unary⟩, ?_⟩
    refine List.forall_mem_cons.2 ⟨⟨_, S_laws_eqSlot⟩, ?_⟩
    refine List.forall_mem_cons.2 ⟨⟨_, S_laws_markText⟩, ?_⟩
    refine List.forall_mem_cons.2 ⟨⟨_, S_laws_szSlot⟩, ?_⟩
    refine List.forall_mem_cons.2 ⟨⟨_, S_laws_toSlot⟩, ?_⟩
    refine List.forall_mem_cons.2 ⟨⟨_, S_slices_Clone_impl_Slot⟩, ?_⟩
    refine List.forall_mem_cons.2 ⟨⟨_, S_slices_IndexFunc_impl_Slot⟩, ?_⟩
    refine List.forall_mem_cons.2 ⟨⟨_, S_impl_Conn_ready_1⟩, ?_⟩
    refine List.forall_mem_cons.2 ⟨⟨_, S_spec_l00Src_next⟩, ?_⟩
    refine List.forall_mem_cons.2 ⟨⟨_, S_spec_l01Bool⟩, ?_⟩
    refine List.forall_mem_cons.2 ⟨⟨_, S_spec_l00Src_chance⟩, ?_⟩
    refine List.forall_mem_cons.2 ⟨⟨_, S_spec_l01Text⟩, ?_⟩
    refine List.forall_mem_cons.2 ⟨⟨_, S_spec_l00Src_pick⟩, ?_⟩
    refine List.forall_mem_cons.2 ⟨⟨_, S_spec_l01Int⟩, ?_⟩
    refine List.forall_mem_cons.2 ⟨⟨_, S_slices_Contains_string⟩, ?_⟩
    refine List.forall_mem_cons.2 ⟨⟨_, S_impl_ofBool⟩, ?_⟩
    refine List.forall_mem_cons.2 ⟨⟨_, S_impl_ofText⟩, ?_⟩
    refine List.forall_mem_cons.2 ⟨⟨_, S_impl_arithmetic⟩, ?_⟩
    refine List.forall_mem_cons.2 ⟨⟨_, S_spec_l01Fit⟩, ?_⟩
    refine List.forall_mem_cons.2 ⟨⟨_, S_cmp_isNaN_int⟩, ?_⟩
    refine List.forall_mem_cons.2 ⟨⟨_, S_cmp_isNaN_string⟩, ?_⟩
    refine List.forall_mem_cons.2 ⟨⟨_, S_impl_inBounds⟩, ?_⟩
    refine List.forall_mem_cons.2 ⟨⟨_, S_spec_l00Src_byte⟩, ?_⟩
    refine List.forall_mem_cons.2 ⟨⟨_, S_spec_l01Bit⟩, ?_⟩
    refine List.forall_mem_cons.2 ⟨⟨_, S_slices_Index_string⟩, ?_⟩
    refine List.forall_mem_cons.2 ⟨⟨_, S_impl_ofInt⟩, ?_⟩
    intro x hx; cases hx
  exact key _ (lk_mem h)
theorem mixed : Try.prog.follows .mixedOrders = true := by kernel_rfl
end Go.X
