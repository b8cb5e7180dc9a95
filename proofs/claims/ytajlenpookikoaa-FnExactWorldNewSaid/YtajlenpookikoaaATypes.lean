/- The types that the program's functions name. -/
import Derived.Test.YtajlenpookikoaaAAM
namespace Go.AMx
open Go Go.AM
/-- The types that the program's functions name. -/
def tyL : List (Nat × TI) := [
  (3, ⟨.int .i64, 1, 8, .int .i64 0, some (.int .i64), false⟩),
  (4, ⟨.bool, 1, 1, .bool false, some .bool, false⟩),
  (5, ⟨.int .u8, 1, 1, .int .u8 0, some (.int .u8), false⟩),
  (9, ⟨.str, 1, 16, .str ByteArray.empty, some .str, false⟩),
  (22, ⟨.slice 41, 1, 24, .nils, some (.row (.pair .str (.pair (.int .i64) (.pair (.int .i64) (.pair (.row (.pair (.int .i64) (.pair (.int .i64) (.pair (.int .i64) (.pair (.int .i64) (.pair (.int .i64) (.pair .str (.pair (.row (.int .i64)) .unit)))))))) .unit))))), false⟩),
  (24, ⟨.slice 46, 1, 24, .nils, some (.row (.pair .str (.pair (.int .i64) (.pair (.int .i64) (.pair (.row (.pair (.int .i64) (.pair (.int .i64) (.pair (.int .i64) (.pair (.int .i64) (.pair (.int .i64) (.pair .str (.pair (.row (.int .i64)) .unit)))))))) .unit))))), false⟩),
  (25, ⟨.slice 50, 1, 24, .nils, some (.row (.pair (.row (.pair (.int .i64) (.pair (.int .i64) (.pair (.row (.int .i64)) (.pair (.int .i64) .unit))))) (.pair .bool (.pair .bool (.pair (.int .i64) (.pair (.int .i64) (.pair (.int .i64) (.pair (.int .i64) (.pair (.int .i64) .unit))))))))), false⟩),
  (26, ⟨.slice 77, 1, 24, .nils, some (.row (.pair (.int .i64) (.pair .bool (.pair (.row (.int .i64)) (.pair (.row (.pair (.int .i64) (.pair (.int .i64) (.pair (.int .i64) (.pair (.int .i64) .unit))))) (.pair (.row (.pair (.int .i64) (.pair (.int .i64) (.pair (.int .i64) (.pair (.int .i64) .unit))))) .unit)))))), false⟩),
  (27, ⟨.slice 3, 1, 24, .nils, some (.row (.int .i64)), false⟩),
  (29, ⟨.struct [(0, 24), (1, 25), (2, 26), (3, 27), (4, 4), (5, 3)], 6, 112, .agg [.nils, .nils, .nils, .nils, .bool false, .int .i64 0], some (.pair (.row (.pair .str (.pair (.int .i64) (.pair (.int .i64) (.pair (.row (.pair (.int .i64) (.pair (.int .i64) (.pair (.int .i64) (.pair (.int .i64) (.pair (.int .i64) (.pair .str (.pair (.row (.int .i64)) .unit)))))))) .unit))))) (.pair (.row (.pair (.row (.pair (.int .i64) (.pair (.int .i64) (.pair (.row (.int .i64)) (.pair (.int .i64) .unit))))) (.pair .bool (.pair .bool (.pair (.int .i64) (.pair (.int .i64) (.pair (.int .i64) (.pair (.int .i64) (.pair (.int .i64) .unit))))))))) (.pair (.row (.pair (.int .i64) (.pair .bool (.pair (.row (.int .i64)) (.pair (.row (.pair (.int .i64) (.pair (.int .i64) (.pair (.int .i64) (.pair (.int .i64) .unit))))) (.pair (.row (.pair (.int .i64) (.pair (.int .i64) (.pair (.int .i64) (.pair (.int .i64) .unit))))) .unit)))))) (.pair (.row (.int .i64)) (.pair .bool (.pair (.int .i64) .unit)))))), false⟩),
  (39, ⟨.slice 83, 1, 24, .nils, some (.row (.pair (.int .i64) (.pair (.int .i64) (.pair (.int .i64) (.pair (.int .i64) (.pair (.int .i64) (.pair .str (.pair (.row (.int .i64)) .unit)))))))), false⟩),
  (41, ⟨.struct [(0, 9), (1, 3), (2, 3), (3, 39)], 4, 56, .agg [.str ByteArray.empty, .int .i64 0, .int .i64 0, .nils], some (.pair .str (.pair (.int .i64) (.pair (.int .i64) (.pair (.row (.pair (.int .i64) (.pair (.int .i64) (.pair (.int .i64) (.pair (.int .i64) (.pair (.int .i64) (.pair .str (.pair (.row (.int .i64)) .unit)))))))) .unit)))), false⟩),
  (44, ⟨.slice 68, 1, 24, .nils, some (.row (.pair (.int .i64) (.pair (.int .i64) (.pair (.int .i64) (.pair (.int .i64) (.pair (.int .i64) (.pair .str (.pair (.row (.int .i64)) .unit)))))))), false⟩),
  (46, ⟨.struct [(0, 9), (1, 3), (2, 3), (3, 44)], 4, 56, .agg [.str ByteArray.empty, .int .i64 0, .int .i64 0, .nils], some (.pair .str (.pair (.int .i64) (.pair (.int .i64) (.pair (.row (.pair (.int .i64) (.pair (.int .i64) (.pair (.int .i64) (.pair (.int .i64) (.pair (.int .i64) (.pair .str (.pair (.row (.int .i64)) .unit)))))))) .unit)))), false⟩),
  (48, ⟨.slice 54, 1, 24, .nils, some (.row (.pair (.int .i64) (.pair (.int .i64) (.pair (.row (.int .i64)) (.pair (.int .i64) .unit))))), false⟩),
  (50, ⟨.struct [(0, 48), (1, 4), (2, 4), (3, 3), (4, 3), (5, 3), (6, 3), (7, 3)], 8, 72, .agg [.nils, .bool false, .bool false, .int .i64 0, .int .i64 0, .int .i64 0, .int .i64 0, .int .i64 0], some (.pair (.row (.pair (.int .i64) (.pair (.int .i64) (.pair (.row (.int .i64)) (.pair (.int .i64) .unit))))) (.pair .bool (.pair .bool (.pair (.int .i64) (.pair (.int .i64) (.pair (.int .i64) (.pair (.int .i64) (.pair (.int .i64) .unit)))))))), false⟩),
  (54, ⟨.struct [(0, 3), (1, 3), (2, 27), (3, 3)], 4, 48, .agg [.int .i64 0, .int .i64 0, .nils, .int .i64 0], some (.pair (.int .i64) (.pair (.int .i64) (.pair (.row (.int .i64)) (.pair (.int .i64) .unit)))), false⟩),
  (66, ⟨.func, 1, 8, .undef, none, false⟩),
  (68, ⟨.struct [(0, 3), (1, 3), (2, 3), (3, 3), (4, 3), (5, 9), (6, 27)], 7, 80, .agg [.int .i64 0, .int .i64 0, .int .i64 0, .int .i64 0, .int .i64 0, .str ByteArray.empty, .nils], some (.pair (.int .i64) (.pair (.int .i64) (.pair (.int .i64) (.pair (.int .i64) (.pair (.int .i64) (.pair .str (.pair (.row (.int .i64)) .unit))))))), false⟩),
  (75, ⟨.slice 96, 1, 24, .nils, some (.row (.pair (.int .i64) (.pair (.int .i64) (.pair (.int .i64) (.pair (.int .i64) .unit))))), false⟩),
  (77, ⟨.struct [(0, 3), (1, 4), (2, 27), (3, 75), (4, 75)], 5, 88, .agg [.int .i64 0, .bool false, .nils, .nils, .nils], some (.pair (.int .i64) (.pair .bool (.pair (.row (.int .i64)) (.pair (.row (.pair (.int .i64) (.pair (.int .i64) (.pair (.int .i64) (.pair (.int .i64) .unit))))) (.pair (.row (.pair (.int .i64) (.pair (.int .i64) (.pair (.int .i64) (.pair (.int .i64) .unit))))) .unit))))), false⟩),
  (79, ⟨.slice 5, 1, 24, .nils, some (.row (.int .u8)), false⟩),
  (83, ⟨.struct [(0, 3), (1, 3), (2, 3), (3, 3), (4, 3), (5, 9), (6, 27)], 7, 80, .agg [.int .i64 0, .int .i64 0, .int .i64 0, .int .i64 0, .int .i64 0, .str ByteArray.empty, .nils], some (.pair (.int .i64) (.pair (.int .i64) (.pair (.int .i64) (.pair (.int .i64) (.pair (.int .i64) (.pair .str (.pair (.row (.int .i64)) .unit))))))), false⟩),
  (89, ⟨.func, 1, 8, .undef, none, false⟩),
  (96, ⟨.struct [(0, 3), (1, 3), (2, 3), (3, 3)], 4, 32, .agg [.int .i64 0, .int .i64 0, .int .i64 0, .int .i64 0], some (.pair (.int .i64) (.pair (.int .i64) (.pair (.int .i64) (.pair (.int .i64) .unit)))), false⟩),
  (98, ⟨.func, 1, 8, .undef, none, false⟩)
]
def lookT (t : TypeId) : List (Nat × TI) → Option TI
  | [] => none
  | (u, i) :: l => bif u == t then some i else lookT t l
def ty (t : TypeId) : Option TI := lookT t tyL
/-- Rows of these are made deep. -/
def tyD (t : TypeId) : Option TI := (lookT t tyL).map fun i => { i with deep := true }
end Go.AMx
