/- The types that the program's functions name. -/
import Derived.Test.YtampamlgkfhliaaAAM
namespace Go.AMx
open Go Go.AM
/-- The types that the program's functions name. -/
def tyL : List (Nat × TI) := [
  (3, ⟨.int .i64, 1, 8, .int .i64 0, some (.int .i64), false⟩),
  (4, ⟨.bool, 1, 1, .bool false, some .bool, false⟩),
  (5, ⟨.int .u8, 1, 1, .int .u8 0, some (.int .u8), false⟩),
  (9, ⟨.str, 1, 16, .str ByteArray.empty, some .str, false⟩),
  (21, ⟨.int .i32, 1, 4, .int .i32 0, some (.int .i32), false⟩),
  (22, ⟨.slice 43, 1, 24, .nils, some (.row (.pair .str (.pair (.int .i64) (.pair (.int .i64) (.pair (.row (.pair (.int .i64) (.pair (.int .i64) (.pair (.int .i64) (.pair (.int .i64) (.pair (.int .i64) (.pair .str (.pair (.row (.int .i64)) .unit)))))))) .unit))))), false⟩),
  (23, ⟨.slice 114, 1, 24, .nils, some (.row (.pair (.row (.pair (.int .i64) (.pair (.int .i64) (.pair (.row (.int .i64)) (.pair (.int .i64) .unit))))) (.pair .bool (.pair .bool (.pair (.int .i64) (.pair (.int .i64) (.pair (.int .i64) (.pair (.int .i64) (.pair (.int .i64) .unit))))))))), false⟩),
  (24, ⟨.slice 118, 1, 24, .nils, some (.row (.pair (.int .i64) (.pair .bool (.pair (.row (.int .i64)) (.pair (.row (.pair (.int .i64) (.pair (.int .i64) (.pair (.int .i64) (.pair (.int .i64) .unit))))) (.pair (.row (.pair (.int .i64) (.pair (.int .i64) (.pair (.int .i64) (.pair (.int .i64) .unit))))) .unit)))))), false⟩),
  (25, ⟨.slice 3, 1, 24, .nils, some (.row (.int .i64)), false⟩),
  (27, ⟨.struct [(0, 22), (1, 23), (2, 24), (3, 25), (4, 4), (5, 3)], 6, 112, .agg [.nils, .nils, .nils, .nils, .bool false, .int .i64 0], some (.pair (.row (.pair .str (.pair (.int .i64) (.pair (.int .i64) (.pair (.row (.pair (.int .i64) (.pair (.int .i64) (.pair (.int .i64) (.pair (.int .i64) (.pair (.int .i64) (.pair .str (.pair (.row (.int .i64)) .unit)))))))) .unit))))) (.pair (.row (.pair (.row (.pair (.int .i64) (.pair (.int .i64) (.pair (.row (.int .i64)) (.pair (.int .i64) .unit))))) (.pair .bool (.pair .bool (.pair (.int .i64) (.pair (.int .i64) (.pair (.int .i64) (.pair (.int .i64) (.pair (.int .i64) .unit))))))))) (.pair (.row (.pair (.int .i64) (.pair .bool (.pair (.row (.int .i64)) (.pair (.row (.pair (.int .i64) (.pair (.int .i64) (.pair (.int .i64) (.pair (.int .i64) .unit))))) (.pair (.row (.pair (.int .i64) (.pair (.int .i64) (.pair (.int .i64) (.pair (.int .i64) .unit))))) .unit)))))) (.pair (.row (.int .i64)) (.pair .bool (.pair (.int .i64) .unit)))))), false⟩),
  (30, ⟨.slice 48, 1, 24, .nils, some (.row (.pair .str (.pair (.int .i64) (.pair (.int .i64) (.pair (.row (.pair (.int .i64) (.pair (.int .i64) (.pair (.int .i64) (.pair (.int .i64) (.pair (.int .i64) (.pair .str (.pair (.row (.int .i64)) .unit)))))))) .unit))))), false⟩),
  (31, ⟨.slice 70, 1, 24, .nils, some (.row (.pair (.row (.pair (.int .i64) (.pair (.int .i64) (.pair (.row (.int .i64)) (.pair (.int .i64) .unit))))) (.pair .bool (.pair .bool (.pair (.int .i64) (.pair (.int .i64) (.pair (.int .i64) (.pair (.int .i64) (.pair (.int .i64) .unit))))))))), false⟩),
  (32, ⟨.slice 122, 1, 24, .nils, some (.row (.pair (.int .i64) (.pair .bool (.pair (.row (.int .i64)) (.pair (.row (.pair (.int .i64) (.pair (.int .i64) (.pair (.int .i64) (.pair (.int .i64) .unit))))) (.pair (.row (.pair (.int .i64) (.pair (.int .i64) (.pair (.int .i64) (.pair (.int .i64) .unit))))) .unit)))))), false⟩),
  (34, ⟨.struct [(0, 30), (1, 31), (2, 32), (3, 25), (4, 4), (5, 3)], 6, 112, .agg [.nils, .nils, .nils, .nils, .bool false, .int .i64 0], some (.pair (.row (.pair .str (.pair (.int .i64) (.pair (.int .i64) (.pair (.row (.pair (.int .i64) (.pair (.int .i64) (.pair (.int .i64) (.pair (.int .i64) (.pair (.int .i64) (.pair .str (.pair (.row (.int .i64)) .unit)))))))) .unit))))) (.pair (.row (.pair (.row (.pair (.int .i64) (.pair (.int .i64) (.pair (.row (.int .i64)) (.pair (.int .i64) .unit))))) (.pair .bool (.pair .bool (.pair (.int .i64) (.pair (.int .i64) (.pair (.int .i64) (.pair (.int .i64) (.pair (.int .i64) .unit))))))))) (.pair (.row (.pair (.int .i64) (.pair .bool (.pair (.row (.int .i64)) (.pair (.row (.pair (.int .i64) (.pair (.int .i64) (.pair (.int .i64) (.pair (.int .i64) .unit))))) (.pair (.row (.pair (.int .i64) (.pair (.int .i64) (.pair (.int .i64) (.pair (.int .i64) .unit))))) .unit)))))) (.pair (.row (.int .i64)) (.pair .bool (.pair (.int .i64) .unit)))))), false⟩),
  (41, ⟨.slice 129, 1, 24, .nils, some (.row (.pair (.int .i64) (.pair (.int .i64) (.pair (.int .i64) (.pair (.int .i64) (.pair (.int .i64) (.pair .str (.pair (.row (.int .i64)) .unit)))))))), false⟩),
  (43, ⟨.struct [(0, 9), (1, 3), (2, 3), (3, 41)], 4, 56, .agg [.str ByteArray.empty, .int .i64 0, .int .i64 0, .nils], some (.pair .str (.pair (.int .i64) (.pair (.int .i64) (.pair (.row (.pair (.int .i64) (.pair (.int .i64) (.pair (.int .i64) (.pair (.int .i64) (.pair (.int .i64) (.pair .str (.pair (.row (.int .i64)) .unit)))))))) .unit)))), false⟩),
  (46, ⟨.slice 84, 1, 24, .nils, some (.row (.pair (.int .i64) (.pair (.int .i64) (.pair (.int .i64) (.pair (.int .i64) (.pair (.int .i64) (.pair .str (.pair (.row (.int .i64)) .unit)))))))), false⟩),
  (48, ⟨.struct [(0, 9), (1, 3), (2, 3), (3, 46)], 4, 56, .agg [.str ByteArray.empty, .int .i64 0, .int .i64 0, .nils], some (.pair .str (.pair (.int .i64) (.pair (.int .i64) (.pair (.row (.pair (.int .i64) (.pair (.int .i64) (.pair (.int .i64) (.pair (.int .i64) (.pair (.int .i64) (.pair .str (.pair (.row (.int .i64)) .unit)))))))) .unit)))), false⟩),
  (68, ⟨.slice 108, 1, 24, .nils, some (.row (.pair (.int .i64) (.pair (.int .i64) (.pair (.row (.int .i64)) (.pair (.int .i64) .unit))))), false⟩),
  (70, ⟨.struct [(0, 68), (1, 4), (2, 4), (3, 3), (4, 3), (5, 3), (6, 3), (7, 3)], 8, 72, .agg [.nils, .bool false, .bool false, .int .i64 0, .int .i64 0, .int .i64 0, .int .i64 0, .int .i64 0], some (.pair (.row (.pair (.int .i64) (.pair (.int .i64) (.pair (.row (.int .i64)) (.pair (.int .i64) .unit))))) (.pair .bool (.pair .bool (.pair (.int .i64) (.pair (.int .i64) (.pair (.int .i64) (.pair (.int .i64) (.pair (.int .i64) .unit)))))))), false⟩),
  (76, ⟨.func, 1, 8, .undef, none, false⟩),
  (84, ⟨.struct [(0, 3), (1, 3), (2, 3), (3, 3), (4, 3), (5, 9), (6, 25)], 7, 80, .agg [.int .i64 0, .int .i64 0, .int .i64 0, .int .i64 0, .int .i64 0, .str ByteArray.empty, .nils], some (.pair (.int .i64) (.pair (.int .i64) (.pair (.int .i64) (.pair (.int .i64) (.pair (.int .i64) (.pair .str (.pair (.row (.int .i64)) .unit))))))), false⟩),
  (91, ⟨.func, 1, 8, .undef, none, false⟩),
  (92, ⟨.ptr 95, 1, 8, .nilp, none, false⟩),
  (93, ⟨.slice 4, 1, 24, .nils, some (.row .bool), false⟩),
  (95, ⟨.struct [(0, 93), (1, 25)], 2, 48, .agg [.nils, .nils], some (.pair (.row .bool) (.pair (.row (.int .i64)) .unit)), false⟩),
  (99, ⟨.ptr 101, 1, 8, .nilp, none, false⟩),
  (101, ⟨.struct [(0, 93), (1, 25)], 2, 48, .agg [.nils, .nils], some (.pair (.row .bool) (.pair (.row (.int .i64)) .unit)), false⟩),
  (108, ⟨.struct [(0, 3), (1, 3), (2, 25), (3, 3)], 4, 48, .agg [.int .i64 0, .int .i64 0, .nils, .int .i64 0], some (.pair (.int .i64) (.pair (.int .i64) (.pair (.row (.int .i64)) (.pair (.int .i64) .unit)))), false⟩),
  (112, ⟨.slice 161, 1, 24, .nils, some (.row (.pair (.int .i64) (.pair (.int .i64) (.pair (.row (.int .i64)) (.pair (.int .i64) .unit))))), false⟩),
  (114, ⟨.struct [(0, 112), (1, 4), (2, 4), (3, 3), (4, 3), (5, 3), (6, 3), (7, 3)], 8, 72, .agg [.nils, .bool false, .bool false, .int .i64 0, .int .i64 0, .int .i64 0, .int .i64 0, .int .i64 0], some (.pair (.row (.pair (.int .i64) (.pair (.int .i64) (.pair (.row (.int .i64)) (.pair (.int .i64) .unit))))) (.pair .bool (.pair .bool (.pair (.int .i64) (.pair (.int .i64) (.pair (.int .i64) (.pair (.int .i64) (.pair (.int .i64) .unit)))))))), false⟩),
  (116, ⟨.slice 164, 1, 24, .nils, some (.row (.pair (.int .i64) (.pair (.int .i64) (.pair (.int .i64) (.pair (.int .i64) .unit))))), false⟩),
  (118, ⟨.struct [(0, 3), (1, 4), (2, 25), (3, 116), (4, 116)], 5, 88, .agg [.int .i64 0, .bool false, .nils, .nils, .nils], some (.pair (.int .i64) (.pair .bool (.pair (.row (.int .i64)) (.pair (.row (.pair (.int .i64) (.pair (.int .i64) (.pair (.int .i64) (.pair (.int .i64) .unit))))) (.pair (.row (.pair (.int .i64) (.pair (.int .i64) (.pair (.int .i64) (.pair (.int .i64) .unit))))) .unit))))), false⟩),
  (120, ⟨.slice 152, 1, 24, .nils, some (.row (.pair (.int .i64) (.pair (.int .i64) (.pair (.int .i64) (.pair (.int .i64) .unit))))), false⟩),
  (122, ⟨.struct [(0, 3), (1, 4), (2, 25), (3, 120), (4, 120)], 5, 88, .agg [.int .i64 0, .bool false, .nils, .nils, .nils], some (.pair (.int .i64) (.pair .bool (.pair (.row (.int .i64)) (.pair (.row (.pair (.int .i64) (.pair (.int .i64) (.pair (.int .i64) (.pair (.int .i64) .unit))))) (.pair (.row (.pair (.int .i64) (.pair (.int .i64) (.pair (.int .i64) (.pair (.int .i64) .unit))))) .unit))))), false⟩),
  (129, ⟨.struct [(0, 3), (1, 3), (2, 3), (3, 3), (4, 3), (5, 9), (6, 25)], 7, 80, .agg [.int .i64 0, .int .i64 0, .int .i64 0, .int .i64 0, .int .i64 0, .str ByteArray.empty, .nils], some (.pair (.int .i64) (.pair (.int .i64) (.pair (.int .i64) (.pair (.int .i64) (.pair (.int .i64) (.pair .str (.pair (.row (.int .i64)) .unit))))))), false⟩),
  (137, ⟨.func, 1, 8, .undef, none, false⟩),
  (144, ⟨.slice 5, 1, 24, .nils, some (.row (.int .u8)), false⟩),
  (152, ⟨.struct [(0, 3), (1, 3), (2, 3), (3, 3)], 4, 32, .agg [.int .i64 0, .int .i64 0, .int .i64 0, .int .i64 0], some (.pair (.int .i64) (.pair (.int .i64) (.pair (.int .i64) (.pair (.int .i64) .unit)))), false⟩),
  (157, ⟨.int .u64, 1, 8, .int .u64 0, some (.int .u64), false⟩),
  (161, ⟨.struct [(0, 3), (1, 3), (2, 25), (3, 3)], 4, 48, .agg [.int .i64 0, .int .i64 0, .nils, .int .i64 0], some (.pair (.int .i64) (.pair (.int .i64) (.pair (.row (.int .i64)) (.pair (.int .i64) .unit)))), false⟩),
  (164, ⟨.struct [(0, 3), (1, 3), (2, 3), (3, 3)], 4, 32, .agg [.int .i64 0, .int .i64 0, .int .i64 0, .int .i64 0], some (.pair (.int .i64) (.pair (.int .i64) (.pair (.int .i64) (.pair (.int .i64) .unit)))), false⟩),
  (169, ⟨.int .i64, 1, 8, .int .i64 0, some (.int .i64), false⟩),
  (178, ⟨.int .u32, 1, 4, .int .u32 0, some (.int .u32), false⟩),
  (180, ⟨.int .u64, 1, 8, .int .u64 0, some (.int .u64), false⟩),
  (182, ⟨.int .u64, 1, 8, .int .u64 0, some (.int .u64), false⟩),
  (186, ⟨.ptr 3, 1, 8, .nilp, none, false⟩),
  (188, ⟨.ptr 182, 1, 8, .nilp, none, false⟩)
]
def lookT (t : TypeId) : List (Nat × TI) → Option TI
  | [] => none
  | (u, i) :: l => bif u == t then some i else lookT t l
def ty (t : TypeId) : Option TI := lookT t tyL
/-- Rows of these are made deep. -/
def tyD (t : TypeId) : Option TI := (lookT t tyL).map fun i => { i with deep := true }
end Go.AMx
