/- The types that the program's functions name. -/
import Derived.Test.YtcjpjgfjagfjjaaGreatAAM
namespace Go.AMx
open Go Go.AM
/-- The types that the program's functions name. -/
def tyL : List (Nat × TI) := [
  (3, ⟨.int .i64, 1, 8, .int .i64 0, some (.int .i64)⟩),
  (4, ⟨.bool, 1, 1, .bool false, some .bool⟩),
  (5, ⟨.int .u8, 1, 1, .int .u8 0, some (.int .u8)⟩),
  (9, ⟨.str, 1, 16, .str ByteArray.empty, some .str⟩),
  (22, ⟨.slice 54, 1, 24, .nils, some (.row (.pair .str (.pair (.int .i64) (.pair (.int .i64) (.pair (.row (.pair (.int .i64) (.pair (.int .i64) (.pair (.int .i64) (.pair (.int .i64) (.pair (.int .i64) (.pair .str (.pair (.row (.int .i64)) .unit)))))))) .unit)))))⟩),
  (23, ⟨.slice 58, 1, 24, .nils, some (.row (.pair (.row (.pair (.int .i64) (.pair (.int .i64) (.pair (.row (.int .i64)) (.pair (.int .i64) .unit))))) (.pair .bool (.pair .bool (.pair (.int .i64) (.pair (.int .i64) (.pair (.int .i64) (.pair (.int .i64) (.pair (.int .i64) .unit)))))))))⟩),
  (24, ⟨.slice 62, 1, 24, .nils, some (.row (.pair (.int .i64) (.pair .bool (.pair (.row (.int .i64)) (.pair (.row (.pair (.int .i64) (.pair (.int .i64) (.pair (.int .i64) (.pair (.int .i64) .unit))))) (.pair (.row (.pair (.int .i64) (.pair (.int .i64) (.pair (.int .i64) (.pair (.int .i64) .unit))))) .unit))))))⟩),
  (25, ⟨.slice 3, 1, 24, .nils, some (.row (.int .i64))⟩),
  (27, ⟨.struct [(0, 22), (1, 23), (2, 24), (3, 25), (4, 4), (5, 3)], 6, 112, .agg [.nils, .nils, .nils, .nils, .bool false, .int .i64 0], some (.pair (.row (.pair .str (.pair (.int .i64) (.pair (.int .i64) (.pair (.row (.pair (.int .i64) (.pair (.int .i64) (.pair (.int .i64) (.pair (.int .i64) (.pair (.int .i64) (.pair .str (.pair (.row (.int .i64)) .unit)))))))) .unit))))) (.pair (.row (.pair (.row (.pair (.int .i64) (.pair (.int .i64) (.pair (.row (.int .i64)) (.pair (.int .i64) .unit))))) (.pair .bool (.pair .bool (.pair (.int .i64) (.pair (.int .i64) (.pair (.int .i64) (.pair (.int .i64) (.pair (.int .i64) .unit))))))))) (.pair (.row (.pair (.int .i64) (.pair .bool (.pair (.row (.int .i64)) (.pair (.row (.pair (.int .i64) (.pair (.int .i64) (.pair (.int .i64) (.pair (.int .i64) .unit))))) (.pair (.row (.pair (.int .i64) (.pair (.int .i64) (.pair (.int .i64) (.pair (.int .i64) .unit))))) .unit)))))) (.pair (.row (.int .i64)) (.pair .bool (.pair (.int .i64) .unit))))))⟩),
  (30, ⟨.slice 78, 1, 24, .nils, some (.row (.pair .str (.pair (.int .i64) (.pair (.int .i64) (.pair (.row (.pair (.int .i64) (.pair (.int .i64) (.pair (.int .i64) (.pair (.int .i64) (.pair (.int .i64) (.pair .str (.pair (.row (.int .i64)) .unit)))))))) .unit)))))⟩),
  (31, ⟨.slice 70, 1, 24, .nils, some (.row (.pair (.row (.pair (.int .i64) (.pair (.int .i64) (.pair (.row (.int .i64)) (.pair (.int .i64) .unit))))) (.pair .bool (.pair .bool (.pair (.int .i64) (.pair (.int .i64) (.pair (.int .i64) (.pair (.int .i64) (.pair (.int .i64) .unit)))))))))⟩),
  (32, ⟨.slice 74, 1, 24, .nils, some (.row (.pair (.int .i64) (.pair .bool (.pair (.row (.int .i64)) (.pair (.row (.pair (.int .i64) (.pair (.int .i64) (.pair (.int .i64) (.pair (.int .i64) .unit))))) (.pair (.row (.pair (.int .i64) (.pair (.int .i64) (.pair (.int .i64) (.pair (.int .i64) .unit))))) .unit))))))⟩),
  (34, ⟨.struct [(0, 30), (1, 31), (2, 32), (3, 25), (4, 4), (5, 3)], 6, 112, .agg [.nils, .nils, .nils, .nils, .bool false, .int .i64 0], some (.pair (.row (.pair .str (.pair (.int .i64) (.pair (.int .i64) (.pair (.row (.pair (.int .i64) (.pair (.int .i64) (.pair (.int .i64) (.pair (.int .i64) (.pair (.int .i64) (.pair .str (.pair (.row (.int .i64)) .unit)))))))) .unit))))) (.pair (.row (.pair (.row (.pair (.int .i64) (.pair (.int .i64) (.pair (.row (.int .i64)) (.pair (.int .i64) .unit))))) (.pair .bool (.pair .bool (.pair (.int .i64) (.pair (.int .i64) (.pair (.int .i64) (.pair (.int .i64) (.pair (.int .i64) .unit))))))))) (.pair (.row (.pair (.int .i64) (.pair .bool (.pair (.row (.int .i64)) (.pair (.row (.pair (.int .i64) (.pair (.int .i64) (.pair (.int .i64) (.pair (.int .i64) .unit))))) (.pair (.row (.pair (.int .i64) (.pair (.int .i64) (.pair (.int .i64) (.pair (.int .i64) .unit))))) .unit)))))) (.pair (.row (.int .i64)) (.pair .bool (.pair (.int .i64) .unit))))))⟩),
  (52, ⟨.slice 114, 1, 24, .nils, some (.row (.pair (.int .i64) (.pair (.int .i64) (.pair (.int .i64) (.pair (.int .i64) (.pair (.int .i64) (.pair .str (.pair (.row (.int .i64)) .unit))))))))⟩),
  (54, ⟨.struct [(0, 9), (1, 3), (2, 3), (3, 52)], 4, 56, .agg [.str ByteArray.empty, .int .i64 0, .int .i64 0, .nils], some (.pair .str (.pair (.int .i64) (.pair (.int .i64) (.pair (.row (.pair (.int .i64) (.pair (.int .i64) (.pair (.int .i64) (.pair (.int .i64) (.pair (.int .i64) (.pair .str (.pair (.row (.int .i64)) .unit)))))))) .unit))))⟩),
  (56, ⟨.slice 116, 1, 24, .nils, some (.row (.pair (.int .i64) (.pair (.int .i64) (.pair (.row (.int .i64)) (.pair (.int .i64) .unit)))))⟩),
  (58, ⟨.struct [(0, 56), (1, 4), (2, 4), (3, 3), (4, 3), (5, 3), (6, 3), (7, 3)], 8, 72, .agg [.nils, .bool false, .bool false, .int .i64 0, .int .i64 0, .int .i64 0, .int .i64 0, .int .i64 0], some (.pair (.row (.pair (.int .i64) (.pair (.int .i64) (.pair (.row (.int .i64)) (.pair (.int .i64) .unit))))) (.pair .bool (.pair .bool (.pair (.int .i64) (.pair (.int .i64) (.pair (.int .i64) (.pair (.int .i64) (.pair (.int .i64) .unit))))))))⟩),
  (60, ⟨.slice 125, 1, 24, .nils, some (.row (.pair (.int .i64) (.pair (.int .i64) (.pair (.int .i64) (.pair (.int .i64) .unit)))))⟩),
  (62, ⟨.struct [(0, 3), (1, 4), (2, 25), (3, 60), (4, 60)], 5, 88, .agg [.int .i64 0, .bool false, .nils, .nils, .nils], some (.pair (.int .i64) (.pair .bool (.pair (.row (.int .i64)) (.pair (.row (.pair (.int .i64) (.pair (.int .i64) (.pair (.int .i64) (.pair (.int .i64) .unit))))) (.pair (.row (.pair (.int .i64) (.pair (.int .i64) (.pair (.int .i64) (.pair (.int .i64) .unit))))) .unit)))))⟩),
  (66, ⟨.func, 1, 8, .undef, none⟩),
  (68, ⟨.slice 98, 1, 24, .nils, some (.row (.pair (.int .i64) (.pair (.int .i64) (.pair (.row (.int .i64)) (.pair (.int .i64) .unit)))))⟩),
  (70, ⟨.struct [(0, 68), (1, 4), (2, 4), (3, 3), (4, 3), (5, 3), (6, 3), (7, 3)], 8, 72, .agg [.nils, .bool false, .bool false, .int .i64 0, .int .i64 0, .int .i64 0, .int .i64 0, .int .i64 0], some (.pair (.row (.pair (.int .i64) (.pair (.int .i64) (.pair (.row (.int .i64)) (.pair (.int .i64) .unit))))) (.pair .bool (.pair .bool (.pair (.int .i64) (.pair (.int .i64) (.pair (.int .i64) (.pair (.int .i64) (.pair (.int .i64) .unit))))))))⟩),
  (71, ⟨.func, 1, 8, .undef, none⟩),
  (72, ⟨.slice 121, 1, 24, .nils, some (.row (.pair (.int .i64) (.pair (.int .i64) (.pair (.int .i64) (.pair (.int .i64) .unit)))))⟩),
  (74, ⟨.struct [(0, 3), (1, 4), (2, 25), (3, 72), (4, 72)], 5, 88, .agg [.int .i64 0, .bool false, .nils, .nils, .nils], some (.pair (.int .i64) (.pair .bool (.pair (.row (.int .i64)) (.pair (.row (.pair (.int .i64) (.pair (.int .i64) (.pair (.int .i64) (.pair (.int .i64) .unit))))) (.pair (.row (.pair (.int .i64) (.pair (.int .i64) (.pair (.int .i64) (.pair (.int .i64) .unit))))) .unit)))))⟩),
  (76, ⟨.slice 96, 1, 24, .nils, some (.row (.pair (.int .i64) (.pair (.int .i64) (.pair (.int .i64) (.pair (.int .i64) (.pair (.int .i64) (.pair .str (.pair (.row (.int .i64)) .unit))))))))⟩),
  (78, ⟨.struct [(0, 9), (1, 3), (2, 3), (3, 76)], 4, 56, .agg [.str ByteArray.empty, .int .i64 0, .int .i64 0, .nils], some (.pair .str (.pair (.int .i64) (.pair (.int .i64) (.pair (.row (.pair (.int .i64) (.pair (.int .i64) (.pair (.int .i64) (.pair (.int .i64) (.pair (.int .i64) (.pair .str (.pair (.row (.int .i64)) .unit)))))))) .unit))))⟩),
  (84, ⟨.func, 1, 8, .undef, none⟩),
  (93, ⟨.func, 1, 8, .undef, none⟩),
  (96, ⟨.struct [(0, 3), (1, 3), (2, 3), (3, 3), (4, 3), (5, 9), (6, 25)], 7, 80, .agg [.int .i64 0, .int .i64 0, .int .i64 0, .int .i64 0, .int .i64 0, .str ByteArray.empty, .nils], some (.pair (.int .i64) (.pair (.int .i64) (.pair (.int .i64) (.pair (.int .i64) (.pair (.int .i64) (.pair .str (.pair (.row (.int .i64)) .unit)))))))⟩),
  (98, ⟨.struct [(0, 3), (1, 3), (2, 25), (3, 3)], 4, 48, .agg [.int .i64 0, .int .i64 0, .nils, .int .i64 0], some (.pair (.int .i64) (.pair (.int .i64) (.pair (.row (.int .i64)) (.pair (.int .i64) .unit))))⟩),
  (107, ⟨.func, 1, 8, .undef, none⟩),
  (114, ⟨.struct [(0, 3), (1, 3), (2, 3), (3, 3), (4, 3), (5, 9), (6, 25)], 7, 80, .agg [.int .i64 0, .int .i64 0, .int .i64 0, .int .i64 0, .int .i64 0, .str ByteArray.empty, .nils], some (.pair (.int .i64) (.pair (.int .i64) (.pair (.int .i64) (.pair (.int .i64) (.pair (.int .i64) (.pair .str (.pair (.row (.int .i64)) .unit)))))))⟩),
  (116, ⟨.struct [(0, 3), (1, 3), (2, 25), (3, 3)], 4, 48, .agg [.int .i64 0, .int .i64 0, .nils, .int .i64 0], some (.pair (.int .i64) (.pair (.int .i64) (.pair (.row (.int .i64)) (.pair (.int .i64) .unit))))⟩),
  (121, ⟨.struct [(0, 3), (1, 3), (2, 3), (3, 3)], 4, 32, .agg [.int .i64 0, .int .i64 0, .int .i64 0, .int .i64 0], some (.pair (.int .i64) (.pair (.int .i64) (.pair (.int .i64) (.pair (.int .i64) .unit))))⟩),
  (125, ⟨.struct [(0, 3), (1, 3), (2, 3), (3, 3)], 4, 32, .agg [.int .i64 0, .int .i64 0, .int .i64 0, .int .i64 0], some (.pair (.int .i64) (.pair (.int .i64) (.pair (.int .i64) (.pair (.int .i64) .unit))))⟩),
  (128, ⟨.slice 5, 1, 24, .nils, some (.row (.int .u8))⟩),
  (132, ⟨.func, 1, 8, .undef, none⟩),
  (138, ⟨.func, 1, 8, .undef, none⟩)
]
def lookT (t : TypeId) : List (Nat × TI) → Option TI
  | [] => none
  | (u, i) :: l => bif u == t then some i else lookT t l
def ty (t : TypeId) : Option TI := lookT t tyL
end Go.AMx
