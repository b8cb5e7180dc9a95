/- The types that the program's functions name. -/
import Derived.Test.YtkingfejeangbaaAAM
namespace Go.AMx
open Go Go.AM
/-- The types that the program's functions name. -/
def tyL : List (Nat × TI) := [
  (3, ⟨.int .i64, 1, 8, .int .i64 0, some (.int .i64), false⟩),
  (4, ⟨.bool, 1, 1, .bool false, some .bool, false⟩),
  (5, ⟨.int .u8, 1, 1, .int .u8 0, some (.int .u8), false⟩),
  (9, ⟨.str, 1, 16, .str ByteArray.empty, some .str, false⟩),
  (21, ⟨.int .i32, 1, 4, .int .i32 0, some (.int .i32), false⟩),
  (23, ⟨.struct [(0, 3), (1, 3), (2, 3), (3, 3), (4, 3), (5, 3)], 6, 48, .agg [.int .i64 0, .int .i64 0, .int .i64 0, .int .i64 0, .int .i64 0, .int .i64 0], some (.pair (.int .i64) (.pair (.int .i64) (.pair (.int .i64) (.pair (.int .i64) (.pair (.int .i64) (.pair (.int .i64) .unit)))))), false⟩),
  (24, ⟨.slice 3, 1, 24, .nils, some (.row (.int .i64)), false⟩),
  (26, ⟨.struct [(0, 3), (1, 3), (2, 3), (3, 3), (4, 3), (5, 3)], 6, 48, .agg [.int .i64 0, .int .i64 0, .int .i64 0, .int .i64 0, .int .i64 0, .int .i64 0], some (.pair (.int .i64) (.pair (.int .i64) (.pair (.int .i64) (.pair (.int .i64) (.pair (.int .i64) (.pair (.int .i64) .unit)))))), false⟩),
  (31, ⟨.slice 5, 1, 24, .nils, some (.row (.int .u8)), false⟩),
  (36, ⟨.slice 53, 1, 24, .nils, some (.row (.pair (.int .i64) (.pair .str (.pair (.int .i64) (.pair (.int .i64) .unit))))), false⟩),
  (48, ⟨.ptr 64, 1, 8, .nilp, none, false⟩),
  (53, ⟨.struct [(0, 3), (1, 9), (2, 3), (3, 3)], 4, 40, .agg [.int .i64 0, .str ByteArray.empty, .int .i64 0, .int .i64 0], some (.pair (.int .i64) (.pair .str (.pair (.int .i64) (.pair (.int .i64) .unit)))), false⟩),
  (60, ⟨.int .u64, 1, 8, .int .u64 0, some (.int .u64), false⟩),
  (64, ⟨.struct [(0, 31), (1, 3), (2, 3)], 3, 40, .agg [.nils, .int .i64 0, .int .i64 0], some (.pair (.row (.int .u8)) (.pair (.int .i64) (.pair (.int .i64) .unit))), false⟩),
  (65, ⟨.func, 1, 8, .undef, none, false⟩),
  (73, ⟨.int .i64, 1, 8, .int .i64 0, some (.int .i64), false⟩),
  (81, ⟨.int .u32, 1, 4, .int .u32 0, some (.int .u32), false⟩),
  (83, ⟨.int .u64, 1, 8, .int .u64 0, some (.int .u64), false⟩),
  (85, ⟨.int .u64, 1, 8, .int .u64 0, some (.int .u64), false⟩),
  (89, ⟨.ptr 3, 1, 8, .nilp, none, false⟩),
  (91, ⟨.ptr 85, 1, 8, .nilp, none, false⟩)
]
def lookT (t : TypeId) : List (Nat × TI) → Option TI
  | [] => none
  | (u, i) :: l => bif u == t then some i else lookT t l
def ty (t : TypeId) : Option TI := lookT t tyL
/-- Rows of these are made deep. -/
def tyD (t : TypeId) : Option TI := (lookT t tyL).map fun i => { i with deep := true }
end Go.AMx
