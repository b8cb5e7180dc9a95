/- The types that the program's functions name. -/
import Derived.Test.YteojdaobpjhddaaAAM
namespace Go.AMx
open Go Go.AM
/-- The types that the program's functions name. -/
def tyL : List (Nat × TI) := [
  (3, ⟨.int .i64, 1, 8, .int .i64 0, some (.int .i64), false⟩),
  (4, ⟨.bool, 1, 1, .bool false, some .bool, false⟩),
  (5, ⟨.int .u8, 1, 1, .int .u8 0, some (.int .u8), false⟩),
  (9, ⟨.str, 1, 16, .str ByteArray.empty, some .str, false⟩),
  (21, ⟨.int .i32, 1, 4, .int .i32 0, some (.int .i32), false⟩),
  (22, ⟨.slice 5, 1, 24, .nils, some (.row (.int .u8)), false⟩),
  (25, ⟨.slice 30, 1, 24, .nils, some (.row (.pair (.int .i64) (.pair .str (.pair (.int .i64) (.pair (.int .i64) .unit))))), false⟩),
  (30, ⟨.struct [(0, 3), (1, 9), (2, 3), (3, 3)], 4, 40, .agg [.int .i64 0, .str ByteArray.empty, .int .i64 0, .int .i64 0], some (.pair (.int .i64) (.pair .str (.pair (.int .i64) (.pair (.int .i64) .unit)))), false⟩),
  (31, ⟨.slice 45, 1, 24, .nils, some (.row (.pair (.int .i64) (.pair (.int .i64) (.pair (.int .i64) (.pair (.int .i64) (.pair (.int .i64) (.pair (.int .i64) .unit))))))), false⟩),
  (32, ⟨.slice 3, 1, 24, .nils, some (.row (.int .i64)), false⟩),
  (34, ⟨.struct [(0, 3), (1, 3), (2, 32)], 3, 40, .agg [.int .i64 0, .int .i64 0, .nils], some (.pair (.int .i64) (.pair (.int .i64) (.pair (.row (.int .i64)) .unit))), false⟩),
  (38, ⟨.struct [(0, 3), (1, 3), (2, 3)], 3, 24, .agg [.int .i64 0, .int .i64 0, .int .i64 0], some (.pair (.int .i64) (.pair (.int .i64) (.pair (.int .i64) .unit))), false⟩),
  (45, ⟨.struct [(0, 3), (1, 3), (2, 3), (3, 3), (4, 3), (5, 3)], 6, 48, .agg [.int .i64 0, .int .i64 0, .int .i64 0, .int .i64 0, .int .i64 0, .int .i64 0], some (.pair (.int .i64) (.pair (.int .i64) (.pair (.int .i64) (.pair (.int .i64) (.pair (.int .i64) (.pair (.int .i64) .unit)))))), false⟩),
  (46, ⟨.slice 48, 1, 24, .nils, some (.row (.pair (.int .i64) (.pair (.int .i64) (.pair (.int .i64) (.pair (.int .i64) .unit))))), false⟩),
  (48, ⟨.struct [(0, 3), (1, 3), (2, 3), (3, 3)], 4, 32, .agg [.int .i64 0, .int .i64 0, .int .i64 0, .int .i64 0], some (.pair (.int .i64) (.pair (.int .i64) (.pair (.int .i64) (.pair (.int .i64) .unit)))), false⟩),
  (58, ⟨.struct [(0, 3), (1, 4), (2, 32), (3, 46), (4, 46)], 5, 88, .agg [.int .i64 0, .bool false, .nils, .nils, .nils], some (.pair (.int .i64) (.pair .bool (.pair (.row (.int .i64)) (.pair (.row (.pair (.int .i64) (.pair (.int .i64) (.pair (.int .i64) (.pair (.int .i64) .unit))))) (.pair (.row (.pair (.int .i64) (.pair (.int .i64) (.pair (.int .i64) (.pair (.int .i64) .unit))))) .unit))))), false⟩),
  (61, ⟨.ptr 104, 1, 8, .nilp, none, false⟩),
  (71, ⟨.slice 9, 1, 24, .nils, some (.row .str), false⟩),
  (77, ⟨.ptr 80, 1, 8, .nilp, none, false⟩),
  (80, ⟨.struct [(0, 32), (1, 4)], 2, 32, .agg [.nils, .bool false], some (.pair (.row (.int .i64)) (.pair .bool .unit)), false⟩),
  (86, ⟨.ptr 88, 1, 8, .nilp, none, false⟩),
  (88, ⟨.struct [(0, 34), (3, 32), (4, 38), (7, 4)], 8, 96, .agg [.int .i64 0, .int .i64 0, .nils, .nils, .int .i64 0, .int .i64 0, .int .i64 0, .bool false], some (.pair (.pair (.int .i64) (.pair (.int .i64) (.pair (.row (.int .i64)) .unit))) (.pair (.row (.int .i64)) (.pair (.pair (.int .i64) (.pair (.int .i64) (.pair (.int .i64) .unit))) (.pair .bool .unit)))), false⟩),
  (90, ⟨.func, 1, 8, .undef, none, false⟩),
  (99, ⟨.func, 1, 8, .undef, none, false⟩),
  (104, ⟨.struct [(0, 22), (1, 3), (2, 3)], 3, 40, .agg [.nils, .int .i64 0, .int .i64 0], some (.pair (.row (.int .u8)) (.pair (.int .i64) (.pair (.int .i64) .unit))), false⟩),
  (106, ⟨.func, 1, 8, .undef, none, false⟩),
  (120, ⟨.ptr 34, 1, 8, .nilp, none, false⟩)
]
def lookT (t : TypeId) : List (Nat × TI) → Option TI
  | [] => none
  | (u, i) :: l => bif u == t then some i else lookT t l
def ty (t : TypeId) : Option TI := lookT t tyL
/-- Rows of these are made deep. -/
def tyD (t : TypeId) : Option TI := (lookT t tyL).map fun i => { i with deep := true }
end Go.AMx
