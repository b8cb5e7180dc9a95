/- The types that the program's functions name. -/
import Derived.Test.YtpjnebmccoojpaaGreatAAM
namespace Go.AMx
open Go Go.AM
/-- The types that the program's functions name. -/
def tyL : List (Nat × TI) := [
  (3, ⟨.int .i64, 1, 8, .int .i64 0, some (.int .i64)⟩),
  (4, ⟨.bool, 1, 1, .bool false, some .bool⟩),
  (5, ⟨.int .u8, 1, 1, .int .u8 0, some (.int .u8)⟩),
  (9, ⟨.str, 1, 16, .str ByteArray.empty, some .str⟩),
  (22, ⟨.slice 70, 1, 24, .nils, some (.row (.pair .str (.pair (.int .i64) (.pair (.int .i64) (.pair (.row (.pair (.int .i64) (.pair (.int .i64) (.pair (.int .i64) (.pair (.int .i64) (.pair (.int .i64) (.pair .str (.pair (.row (.int .i64)) .unit)))))))) .unit)))))⟩),
  (23, ⟨.slice 74, 1, 24, .nils, some (.row (.pair (.row (.pair (.int .i64) (.pair (.int .i64) (.pair (.row (.int .i64)) (.pair (.int .i64) .unit))))) (.pair .bool (.pair .bool (.pair (.int .i64) (.pair (.int .i64) (.pair (.int .i64) (.pair (.int .i64) (.pair (.int .i64) .unit)))))))))⟩),
  (24, ⟨.slice 78, 1, 24, .nils, some (.row (.pair (.int .i64) (.pair .bool (.pair (.row (.int .i64)) (.pair (.row (.pair (.int .i64) (.pair (.int .i64) (.pair (.int .i64) (.pair (.int .i64) .unit))))) (.pair (.row (.pair (.int .i64) (.pair (.int .i64) (.pair (.int .i64) (.pair (.int .i64) .unit))))) .unit))))))⟩),
  (25, ⟨.slice 3, 1, 24, .nils, some (.row (.int .i64))⟩),
  (27, ⟨.struct [(0, 22), (1, 23), (2, 24), (3, 25), (4, 4), (5, 3)], 6, 112, .agg [.nils, .nils, .nils, .nils, .bool false, .int .i64 0], some (.pair (.row (.pair .str (.pair (.int .i64) (.pair (.int .i64) (.pair (.row (.pair (.int .i64) (.pair (.int .i64) (.pair (.int .i64) (.pair (.int .i64) (.pair (.int .i64) (.pair .str (.pair (.row (.int .i64)) .unit)))))))) .unit))))) (.pair (.row (.pair (.row (.pair (.int .i64) (.pair (.int .i64) (.pair (.row (.int .i64)) (.pair (.int .i64) .unit))))) (.pair .bool (.pair .bool (.pair (.int .i64) (.pair (.int .i64) (.pair (.int .i64) (.pair (.int .i64) (.pair (.int .i64) .unit))))))))) (.pair (.row (.pair (.int .i64) (.pair .bool (.pair (.row (.int .i64)) (.pair (.row (.pair (.int .i64) (.pair (.int .i64) (.pair (.int .i64) (.pair (.int .i64) .unit))))) (.pair (.row (.pair (.int .i64) (.pair (.int .i64) (.pair (.int .i64) (.pair (.int .i64) .unit))))) .unit)))))) (.pair (.row (.int .i64)) (.pair .bool (.pair (.int .i64) .unit))))))⟩),
  (30, ⟨.slice 81, 1, 24, .nils, some (.row (.pair .str (.pair (.int .i64) (.pair (.int .i64) (.pair (.row (.pair (.int .i64) (.pair (.int .i64) (.pair (.int .i64) (.pair (.int .i64) (.pair (.int .i64) (.pair .str (.pair (.row (.int .i64)) .unit)))))))) .unit)))))⟩),
  (31, ⟨.slice 49, 1, 24, .nils, some (.row (.pair (.row (.pair (.int .i64) (.pair (.int .i64) (.pair (.row (.int .i64)) (.pair (.int .i64) .unit))))) (.pair .bool (.pair .bool (.pair (.int .i64) (.pair (.int .i64) (.pair (.int .i64) (.pair (.int .i64) (.pair (.int .i64) .unit)))))))))⟩),
  (32, ⟨.slice 53, 1, 24, .nils, some (.row (.pair (.int .i64) (.pair .bool (.pair (.row (.int .i64)) (.pair (.row (.pair (.int .i64) (.pair (.int .i64) (.pair (.int .i64) (.pair (.int .i64) .unit))))) (.pair (.row (.pair (.int .i64) (.pair (.int .i64) (.pair (.int .i64) (.pair (.int .i64) .unit))))) .unit))))))⟩),
  (34, ⟨.struct [(0, 30), (1, 31), (2, 32), (3, 25), (4, 4), (5, 3)], 6, 112, .agg [.nils, .nils, .nils, .nils, .bool false, .int .i64 0], some (.pair (.row (.pair .str (.pair (.int .i64) (.pair (.int .i64) (.pair (.row (.pair (.int .i64) (.pair (.int .i64) (.pair (.int .i64) (.pair (.int .i64) (.pair (.int .i64) (.pair .str (.pair (.row (.int .i64)) .unit)))))))) .unit))))) (.pair (.row (.pair (.row (.pair (.int .i64) (.pair (.int .i64) (.pair (.row (.int .i64)) (.pair (.int .i64) .unit))))) (.pair .bool (.pair .bool (.pair (.int .i64) (.pair (.int .i64) (.pair (.int .i64) (.pair (.int .i64) (.pair (.int .i64) .unit))))))))) (.pair (.row (.pair (.int .i64) (.pair .bool (.pair (.row (.int .i64)) (.pair (.row (.pair (.int .i64) (.pair (.int .i64) (.pair (.int .i64) (.pair (.int .i64) .unit))))) (.pair (.row (.pair (.int .i64) (.pair (.int .i64) (.pair (.int .i64) (.pair (.int .i64) .unit))))) .unit)))))) (.pair (.row (.int .i64)) (.pair .bool (.pair (.int .i64) .unit))))))⟩),
  (45, ⟨.func, 1, 8, .undef, none⟩),
  (47, ⟨.slice 87, 1, 24, .nils, some (.row (.pair (.int .i64) (.pair (.int .i64) (.pair (.row (.int .i64)) (.pair (.int .i64) .unit)))))⟩),
  (49, ⟨.struct [(0, 47), (1, 4), (2, 4), (3, 3), (4, 3), (5, 3), (6, 3), (7, 3)], 8, 72, .agg [.nils, .bool false, .bool false, .int .i64 0, .int .i64 0, .int .i64 0, .int .i64 0, .int .i64 0], some (.pair (.row (.pair (.int .i64) (.pair (.int .i64) (.pair (.row (.int .i64)) (.pair (.int .i64) .unit))))) (.pair .bool (.pair .bool (.pair (.int .i64) (.pair (.int .i64) (.pair (.int .i64) (.pair (.int .i64) (.pair (.int .i64) .unit))))))))⟩),
  (50, ⟨.func, 1, 8, .undef, none⟩),
  (51, ⟨.slice 109, 1, 24, .nils, some (.row (.pair (.int .i64) (.pair (.int .i64) (.pair (.int .i64) (.pair (.int .i64) .unit)))))⟩),
  (53, ⟨.struct [(0, 3), (1, 4), (2, 25), (3, 51), (4, 51)], 5, 88, .agg [.int .i64 0, .bool false, .nils, .nils, .nils], some (.pair (.int .i64) (.pair .bool (.pair (.row (.int .i64)) (.pair (.row (.pair (.int .i64) (.pair (.int .i64) (.pair (.int .i64) (.pair (.int .i64) .unit))))) (.pair (.row (.pair (.int .i64) (.pair (.int .i64) (.pair (.int .i64) (.pair (.int .i64) .unit))))) .unit)))))⟩),
  (60, ⟨.func, 1, 8, .undef, none⟩),
  (68, ⟨.slice 125, 1, 24, .nils, some (.row (.pair (.int .i64) (.pair (.int .i64) (.pair (.int .i64) (.pair (.int .i64) (.pair (.int .i64) (.pair .str (.pair (.row (.int .i64)) .unit))))))))⟩),
  (70, ⟨.struct [(0, 9), (1, 3), (2, 3), (3, 68)], 4, 56, .agg [.str ByteArray.empty, .int .i64 0, .int .i64 0, .nils], some (.pair .str (.pair (.int .i64) (.pair (.int .i64) (.pair (.row (.pair (.int .i64) (.pair (.int .i64) (.pair (.int .i64) (.pair (.int .i64) (.pair (.int .i64) (.pair .str (.pair (.row (.int .i64)) .unit)))))))) .unit))))⟩),
  (72, ⟨.slice 127, 1, 24, .nils, some (.row (.pair (.int .i64) (.pair (.int .i64) (.pair (.row (.int .i64)) (.pair (.int .i64) .unit)))))⟩),
  (74, ⟨.struct [(0, 72), (1, 4), (2, 4), (3, 3), (4, 3), (5, 3), (6, 3), (7, 3)], 8, 72, .agg [.nils, .bool false, .bool false, .int .i64 0, .int .i64 0, .int .i64 0, .int .i64 0, .int .i64 0], some (.pair (.row (.pair (.int .i64) (.pair (.int .i64) (.pair (.row (.int .i64)) (.pair (.int .i64) .unit))))) (.pair .bool (.pair .bool (.pair (.int .i64) (.pair (.int .i64) (.pair (.int .i64) (.pair (.int .i64) (.pair (.int .i64) .unit))))))))⟩),
  (76, ⟨.slice 133, 1, 24, .nils, some (.row (.pair (.int .i64) (.pair (.int .i64) (.pair (.int .i64) (.pair (.int .i64) .unit)))))⟩),
  (78, ⟨.struct [(0, 3), (1, 4), (2, 25), (3, 76), (4, 76)], 5, 88, .agg [.int .i64 0, .bool false, .nils, .nils, .nils], some (.pair (.int .i64) (.pair .bool (.pair (.row (.int .i64)) (.pair (.row (.pair (.int .i64) (.pair (.int .i64) (.pair (.int .i64) (.pair (.int .i64) .unit))))) (.pair (.row (.pair (.int .i64) (.pair (.int .i64) (.pair (.int .i64) (.pair (.int .i64) .unit))))) .unit)))))⟩),
  (79, ⟨.slice 85, 1, 24, .nils, some (.row (.pair (.int .i64) (.pair (.int .i64) (.pair (.int .i64) (.pair (.int .i64) (.pair (.int .i64) (.pair .str (.pair (.row (.int .i64)) .unit))))))))⟩),
  (81, ⟨.struct [(0, 9), (1, 3), (2, 3), (3, 79)], 4, 56, .agg [.str ByteArray.empty, .int .i64 0, .int .i64 0, .nils], some (.pair .str (.pair (.int .i64) (.pair (.int .i64) (.pair (.row (.pair (.int .i64) (.pair (.int .i64) (.pair (.int .i64) (.pair (.int .i64) (.pair (.int .i64) (.pair .str (.pair (.row (.int .i64)) .unit)))))))) .unit))))⟩),
  (82, ⟨.func, 1, 8, .undef, none⟩),
  (85, ⟨.struct [(0, 3), (1, 3), (2, 3), (3, 3), (4, 3), (5, 9), (6, 25)], 7, 80, .agg [.int .i64 0, .int .i64 0, .int .i64 0, .int .i64 0, .int .i64 0, .str ByteArray.empty, .nils], some (.pair (.int .i64) (.pair (.int .i64) (.pair (.int .i64) (.pair (.int .i64) (.pair (.int .i64) (.pair .str (.pair (.row (.int .i64)) .unit)))))))⟩),
  (87, ⟨.struct [(0, 3), (1, 3), (2, 25), (3, 3)], 4, 48, .agg [.int .i64 0, .int .i64 0, .nils, .int .i64 0], some (.pair (.int .i64) (.pair (.int .i64) (.pair (.row (.int .i64)) (.pair (.int .i64) .unit))))⟩),
  (96, ⟨.func, 1, 8, .undef, none⟩),
  (109, ⟨.struct [(0, 3), (1, 3), (2, 3), (3, 3)], 4, 32, .agg [.int .i64 0, .int .i64 0, .int .i64 0, .int .i64 0], some (.pair (.int .i64) (.pair (.int .i64) (.pair (.int .i64) (.pair (.int .i64) .unit))))⟩),
  (115, ⟨.slice 5, 1, 24, .nils, some (.row (.int .u8))⟩),
  (119, ⟨.func, 1, 8, .undef, none⟩),
  (125, ⟨.struct [(0, 3), (1, 3), (2, 3), (3, 3), (4, 3), (5, 9), (6, 25)], 7, 80, .agg [.int .i64 0, .int .i64 0, .int .i64 0, .int .i64 0, .int .i64 0, .str ByteArray.empty, .nils], some (.pair (.int .i64) (.pair (.int .i64) (.pair (.int .i64) (.pair (.int .i64) (.pair (.int .i64) (.pair .str (.pair (.row (.int .i64)) .unit)))))))⟩),
  (127, ⟨.struct [(0, 3), (1, 3), (2, 25), (3, 3)], 4, 48, .agg [.int .i64 0, .int .i64 0, .nils, .int .i64 0], some (.pair (.int .i64) (.pair (.int .i64) (.pair (.row (.int .i64)) (.pair (.int .i64) .unit))))⟩),
  (129, ⟨.func, 1, 8, .undef, none⟩),
  (133, ⟨.struct [(0, 3), (1, 3), (2, 3), (3, 3)], 4, 32, .agg [.int .i64 0, .int .i64 0, .int .i64 0, .int .i64 0], some (.pair (.int .i64) (.pair (.int .i64) (.pair (.int .i64) (.pair (.int .i64) .unit))))⟩)
]
def lookT (t : TypeId) : List (Nat × TI) → Option TI
  | [] => none
  | (u, i) :: l => bif u == t then some i else lookT t l
def ty (t : TypeId) : Option TI := lookT t tyL
end Go.AMx
