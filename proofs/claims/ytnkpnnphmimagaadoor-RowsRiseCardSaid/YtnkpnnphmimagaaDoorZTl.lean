/-
  The table of the types that the walks meet. No condition.
-/
import Derived.Test.YtnkpnnphmimagaaDoorZB
import Derived.Test.YtnkpnnphmimagaaDoorProg
namespace Go.Proofs.YtnkpnnphmimagaaDoor
open Go.RowKit
theorem ty2 : mkTy Tryd.prog 2 = some { size := 1, bytes := 8, row := false, zero := [.sc (.int .i64 0)], kind := .int .i64 } := by kernel_rfl
theorem ty3 : mkTy Tryd.prog 3 = some { size := 1, bytes := 8, row := false, zero := [.sc (.int .i64 0)], kind := .int .i64 } := by kernel_rfl
theorem ty4 : mkTy Tryd.prog 4 = some { size := 1, bytes := 1, row := false, zero := [.sc (.bool false)], kind := .bool } := by kernel_rfl
theorem ty5 : mkTy Tryd.prog 5 = some { size := 1, bytes := 1, row := false, zero := [.sc (.int .u8 0)], kind := .int .u8 } := by kernel_rfl
theorem ty6 : mkTy Tryd.prog 6 = some { size := 1, bytes := 1, row := false, zero := [.sc (.int .u8 0)], kind := .int .u8 } := by kernel_rfl
theorem ty7 : mkTy Tryd.prog 7 = some { size := 4, bytes := 24, row := true, zero := [.sc (.int .i64 0), .sc (.int .i64 0), .sc (.bool false), .sc (.int .u8 0)], kind := .struct [(0, 1, false), (1, 1, false), (2, 1, false), (3, 1, false)] } := by kernel_rfl
theorem ty8 : mkTy Tryd.prog 8 = some { size := 4, bytes := 24, row := true, zero := [.sc (.int .i64 0), .sc (.int .i64 0), .sc (.bool false), .sc (.int .u8 0)], kind := .struct [(0, 1, false), (1, 1, false), (2, 1, false), (3, 1, false)] } := by kernel_rfl
theorem ty9 : mkTy Tryd.prog 9 = some { size := 1, bytes := 16, row := false, zero := [.sc (.string .empty)], kind := .str } := by kernel_rfl
theorem ty10 : mkTy Tryd.prog 10 = some { size := 1, bytes := 16, row := false, zero := [.sc (.string .empty)], kind := .str } := by kernel_rfl
theorem ty11 : mkTy Tryd.prog 11 = some { size := 1, bytes := 16, row := false, zero := [.sc (.string .empty)], kind := .str } := by kernel_rfl
theorem ty12 : mkTy Tryd.prog 12 = some { size := 1, bytes := 8, row := false, zero := [.sc (.int .u64 0)], kind := .int .u64 } := by kernel_rfl
theorem ty13 : mkTy Tryd.prog 13 = some { size := 2, bytes := 24, row := true, zero := [.sc (.string .empty), .sc (.int .u64 0)], kind := .struct [(0, 1, false), (1, 1, false)] } := by kernel_rfl
theorem ty14 : mkTy Tryd.prog 14 = some { size := 2, bytes := 24, row := true, zero := [.sc (.string .empty), .sc (.int .u64 0)], kind := .struct [(0, 1, false), (1, 1, false)] } := by kernel_rfl
theorem ty15 : mkTy Tryd.prog 15 = some { size := 1, bytes := 8, row := false, zero := [.sc (.pointer none)], kind := .other } := by kernel_rfl
theorem ty16 : mkTy Tryd.prog 16 = some { size := 1, bytes := 8, row := false, zero := [.sc (.pointer none)], kind := .other } := by kernel_rfl
theorem ty17 : mkTy Tryd.prog 17 = some { size := 1, bytes := 8, row := false, zero := [.sc (.pointer none)], kind := .other } := by kernel_rfl
theorem ty18 : mkTy Tryd.prog 18 = some { size := 1, bytes := 8, row := true, zero := [.sc (.pointer none)], kind := .struct [(0, 1, false)] } := by kernel_rfl
theorem ty19 : mkTy Tryd.prog 19 = some { size := 1, bytes := 8, row := true, zero := [.sc (.pointer none)], kind := .struct [(0, 1, false)] } := by kernel_rfl
theorem ty21 : mkTy Tryd.prog 21 = some { size := 1, bytes := 4, row := false, zero := [.sc (.int .i32 0)], kind := .int .i32 } := by kernel_rfl
theorem ty22 : mkTy Tryd.prog 22 = some { size := 1, bytes := 24, row := false, zero := [.nl], kind := .slice 72 } := by kernel_rfl
theorem ty23 : mkTy Tryd.prog 23 = some { size := 1, bytes := 8, row := false, zero := [.sc (.int .u64 0)], kind := .int .u64 } := by kernel_rfl
theorem ty24 : mkTy Tryd.prog 24 = some { size := 4, bytes := 40, row := true, zero := [.sc (.int .i64 0), .sc (.int .i64 0), .sc (.int .u64 0), .sc (.string .empty)], kind := .struct [(0, 1, false), (1, 1, false), (2, 1, false), (3, 1, false)] } := by kernel_rfl
theorem ty25 : mkTy Tryd.prog 25 = some { size := 4, bytes := 40, row := true, zero := [.sc (.int .i64 0), .sc (.int .i64 0), .sc (.int .u64 0), .sc (.string .empty)], kind := .struct [(0, 1, false), (1, 1, false), (2, 1, false), (3, 1, false)] } := by kernel_rfl
theorem ty26 : mkTy Tryd.prog 26 = some { size := 1, bytes := 24, row := false, zero := [.nl], kind := .slice 28 } := by kernel_rfl
theorem ty27 : mkTy Tryd.prog 27 = some { size := 7, bytes := 88, row := true, zero := [.sc (.int .i64 0), .sc (.int .i64 0), .sc (.int .i64 0), .sc (.int .u64 0), .sc (.string .empty), .sc (.string .empty), .nl], kind := .struct [(0, 1, false), (1, 4, true), (5, 1, false), (6, 1, false)] } := by kernel_rfl
theorem ty28 : mkTy Tryd.prog 28 = some { size := 7, bytes := 88, row := true, zero := [.sc (.int .i64 0), .sc (.int .i64 0), .sc (.int .i64 0), .sc (.int .u64 0), .sc (.string .empty), .sc (.string .empty), .nl], kind := .struct [(0, 1, false), (1, 4, true), (5, 1, false), (6, 1, false)] } := by kernel_rfl
theorem ty29 : mkTy Tryd.prog 29 = some { size := 1, bytes := 24, row := false, zero := [.nl], kind := .slice 37 } := by kernel_rfl
theorem ty30 : mkTy Tryd.prog 30 = some { size := 1, bytes := 8, row := false, zero := [.sc (.pointer none)], kind := .other } := by kernel_rfl
theorem ty33 : mkTy Tryd.prog 33 = some { size := 1, bytes := 8, row := false, zero := [.sc (.int .i64 0)], kind := .int .i64 } := by kernel_rfl
theorem ty36 : mkTy Tryd.prog 36 = some { size := 3, bytes := 32, row := true, zero := [.sc (.string .empty), .sc (.int .i64 0), .sc (.bool false)], kind := .struct [(0, 1, false), (1, 1, false), (2, 1, false)] } := by kernel_rfl
theorem ty37 : mkTy Tryd.prog 37 = some { size := 3, bytes := 32, row := true, zero := [.sc (.string .empty), .sc (.int .i64 0), .sc (.bool false)], kind := .struct [(0, 1, false), (1, 1, false), (2, 1, false)] } := by kernel_rfl
theorem ty41 : mkTy Tryd.prog 41 = some { size := 1, bytes := 24, row := false, zero := [.nl], kind := .slice 25 } := by kernel_rfl
theorem ty42 : mkTy Tryd.prog 42 = some { size := 2, bytes := 32, row := true, zero := [.sc (.bool false), .nl], kind := .struct [(0, 1, false), (1, 1, false)] } := by kernel_rfl
theorem ty43 : mkTy Tryd.prog 43 = some { size := 2, bytes := 32, row := true, zero := [.sc (.bool false), .nl], kind := .struct [(0, 1, false), (1, 1, false)] } := by kernel_rfl
theorem ty44 : mkTy Tryd.prog 44 = some { size := 8, bytes := 128, row := true, zero := [.sc (.bool false), .nl, .sc (.bool false), .nl, .sc (.bool false), .nl, .sc (.bool false), .nl], kind := .array 4 43 2 true } := by kernel_rfl
theorem ty45 : mkTy Tryd.prog 45 = some { size := 16, bytes := 256, row := true, zero := [.sc (.bool false), .nl, .sc (.bool false), .nl, .sc (.bool false), .nl, .sc (.bool false), .nl, .sc (.bool false), .nl, .sc (.bool false), .nl, .sc (.bool false), .nl, .sc (.bool false), .nl], kind := .array 2 44 8 true } := by kernel_rfl
theorem ty46 : mkTy Tryd.prog 46 = some { size := 19, bytes := 304, row := true, zero := [.sc (.bool false), .sc (.string .empty), .nl, .sc (.bool false), .nl, .sc (.bool false), .nl, .sc (.bool false), .nl, .sc (.bool false), .nl, .sc (.bool false), .nl, .sc (.bool false), .nl, .sc (.bool false), .nl, .sc (.bool false), .nl], kind := .struct [(0, 1, false), (1, 1, false), (2, 1, false), (3, 16, true)] } := by kernel_rfl
theorem ty47 : mkTy Tryd.prog 47 = some { size := 19, bytes := 304, row := true, zero := [.sc (.bool false), .sc (.string .empty), .nl, .sc (.bool false), .nl, .sc (.bool false), .nl, .sc (.bool false), .nl, .sc (.bool false), .nl, .sc (.bool false), .nl, .sc (.bool false), .nl, .sc (.bool false), .nl, .sc (.bool false), .nl], kind := .struct [(0, 1, false), (1, 1, false), (2, 1, false), (3, 16, true)] } := by kernel_rfl
theorem ty54 : mkTy Tryd.prog 54 = some { size := 1, bytes := 24, row := false, zero := [.nl], kind := .slice 41 } := by kernel_rfl
theorem ty57 : mkTy Tryd.prog 57 = some { size := 2, bytes := 2, row := true, zero := [.sc (.bool false), .sc (.bool false)], kind := .array 2 4 1 false } := by kernel_rfl
theorem ty69 : mkTy Tryd.prog 69 = some { size := 1, bytes := 8, row := false, zero := [.sc (.int .u64 0)], kind := .int .u64 } := by kernel_rfl
theorem ty71 : mkTy Tryd.prog 71 = some { size := 4, bytes := 40, row := true, zero := [.sc (.int .i64 0), .sc (.int .i64 0), .sc (.int .i64 0), .sc (.string .empty)], kind := .struct [(0, 1, false), (1, 1, false), (2, 1, false), (3, 1, false)] } := by kernel_rfl
theorem ty72 : mkTy Tryd.prog 72 = some { size := 4, bytes := 40, row := true, zero := [.sc (.int .i64 0), .sc (.int .i64 0), .sc (.int .i64 0), .sc (.string .empty)], kind := .struct [(0, 1, false), (1, 1, false), (2, 1, false), (3, 1, false)] } := by kernel_rfl
theorem ty79 : mkTy Tryd.prog 79 = some { size := 3, bytes := 56, row := true, zero := [.nl, .sc (.int .i64 0), .nl], kind := .struct [(0, 1, false), (1, 1, false), (2, 1, false)] } := by kernel_rfl
theorem ty80 : mkTy Tryd.prog 80 = some { size := 3, bytes := 56, row := true, zero := [.nl, .sc (.int .i64 0), .nl], kind := .struct [(0, 1, false), (1, 1, false), (2, 1, false)] } := by kernel_rfl
theorem ty91 : mkTy Tryd.prog 91 = some { size := 2, bytes := 16, row := true, zero := [.sc (.int .i64 0), .sc (.int .i64 0)], kind := .struct [(0, 1, false), (1, 1, false)] } := by kernel_rfl
theorem ty92 : mkTy Tryd.prog 92 = some { size := 2, bytes := 16, row := true, zero := [.sc (.int .i64 0), .sc (.int .i64 0)], kind := .struct [(0, 1, false), (1, 1, false)] } := by kernel_rfl
theorem ty98 : mkTy Tryd.prog 98 = some { size := 2, bytes := 16, row := true, zero := [.sc (.int .i64 0), .sc (.bool false)], kind := .struct [(0, 1, false), (1, 1, false)] } := by kernel_rfl
theorem ty99 : mkTy Tryd.prog 99 = some { size := 2, bytes := 16, row := true, zero := [.sc (.int .i64 0), .sc (.bool false)], kind := .struct [(0, 1, false), (1, 1, false)] } := by kernel_rfl
theorem ty107 : mkTy Tryd.prog 107 = some { size := 4, bytes := 40, row := true, zero := [.sc (.int .i64 0), .sc (.string .empty), .sc (.int .i64 0), .sc (.int .u64 0)], kind := .struct [(0, 1, false), (1, 1, false), (2, 1, false), (3, 1, false)] } := by kernel_rfl
theorem ty108 : mkTy Tryd.prog 108 = some { size := 4, bytes := 40, row := true, zero := [.sc (.int .i64 0), .sc (.string .empty), .sc (.int .i64 0), .sc (.int .u64 0)], kind := .struct [(0, 1, false), (1, 1, false), (2, 1, false), (3, 1, false)] } := by kernel_rfl
theorem ty112 : mkTy Tryd.prog 112 = some { size := 1, bytes := 16, row := false, zero := [.sc .nilIface], kind := .other } := by kernel_rfl
theorem ty118 : mkTy Tryd.prog 118 = some { size := 1, bytes := 24, row := false, zero := [.nl], kind := .slice 3 } := by kernel_rfl
theorem ty123 : mkTy Tryd.prog 123 = some { size := 4, bytes := 32, row := true, zero := [.sc (.int .i64 0), .sc (.bool false), .sc (.int .i64 0), .sc (.bool false)], kind := .array 2 99 2 true } := by kernel_rfl
theorem ty130 : mkTy Tryd.prog 130 = some { size := 1, bytes := 24, row := false, zero := [.nl], kind := .slice 43 } := by kernel_rfl
theorem ty131 : mkTy Tryd.prog 131 = some { size := 2, bytes := 24, row := true, zero := [.sc (.int .i64 0), .sc .nilIface], kind := .struct [(0, 1, false), (1, 1, false)] } := by kernel_rfl
theorem ty132 : mkTy Tryd.prog 132 = some { size := 2, bytes := 24, row := true, zero := [.sc (.int .i64 0), .sc .nilIface], kind := .struct [(0, 1, false), (1, 1, false)] } := by kernel_rfl
theorem ty133 : mkTy Tryd.prog 133 = some { size := 3, bytes := 40, row := true, zero := [.sc (.int .i64 0), .sc .nilIface, .sc .nilIface], kind := .struct [(0, 1, false), (1, 1, false), (2, 1, false)] } := by kernel_rfl
theorem ty134 : mkTy Tryd.prog 134 = some { size := 3, bytes := 40, row := true, zero := [.sc (.int .i64 0), .sc .nilIface, .sc .nilIface], kind := .struct [(0, 1, false), (1, 1, false), (2, 1, false)] } := by kernel_rfl
theorem ty135 : mkTy Tryd.prog 135 = some { size := 4, bytes := 40, row := true, zero := [.sc (.int .i64 0), .sc (.int .i64 0), .sc (.int .u64 0), .sc (.string .empty)], kind := .struct [(0, 4, true)] } := by kernel_rfl
theorem ty136 : mkTy Tryd.prog 136 = some { size := 4, bytes := 40, row := true, zero := [.sc (.int .i64 0), .sc (.int .i64 0), .sc (.int .u64 0), .sc (.string .empty)], kind := .struct [(0, 4, true)] } := by kernel_rfl
theorem ty137 : mkTy Tryd.prog 137 = some { size := 1, bytes := 8, row := true, zero := [.sc (.int .i64 0)], kind := .struct [(0, 1, false)] } := by kernel_rfl
theorem ty138 : mkTy Tryd.prog 138 = some { size := 1, bytes := 8, row := true, zero := [.sc (.int .i64 0)], kind := .struct [(0, 1, false)] } := by kernel_rfl
theorem ty139 : mkTy Tryd.prog 139 = some { size := 0, bytes := 0, row := true, zero := [], kind := .struct [] } := by kernel_rfl
theorem ty140 : mkTy Tryd.prog 140 = some { size := 0, bytes := 0, row := true, zero := [], kind := .struct [] } := by kernel_rfl
theorem ty144 : mkTy Tryd.prog 144 = some { size := 1, bytes := 24, row := false, zero := [.nl], kind := .slice 99 } := by kernel_rfl
theorem ty148 : mkTy Tryd.prog 148 = some { size := 1, bytes := 8, row := false, zero := [.sc (.pointer none)], kind := .other } := by kernel_rfl
theorem ty150 : mkTy Tryd.prog 150 = some { size := 256, bytes := 256, row := true, zero := List.replicate 256 (.sc (.int .u8 0)), kind := .array 256 5 1 false } := by kernel_rfl
theorem ty151 : mkTy Tryd.prog 151 = some { size := 2, bytes := 2, row := true, zero := [.sc (.int .u8 0), .sc (.int .u8 0)], kind := .struct [(0, 1, false), (1, 1, false)] } := by kernel_rfl
theorem ty152 : mkTy Tryd.prog 152 = some { size := 2, bytes := 2, row := true, zero := [.sc (.int .u8 0), .sc (.int .u8 0)], kind := .struct [(0, 1, false), (1, 1, false)] } := by kernel_rfl
theorem ty153 : mkTy Tryd.prog 153 = some { size := 32, bytes := 32, row := true, zero := List.replicate 32 (.sc (.int .u8 0)), kind := .array 16 152 2 true } := by kernel_rfl
theorem ty154 : mkTy Tryd.prog 154 = some { size := 1, bytes := 8, row := false, zero := [.sc (.float .f64 0)], kind := .other } := by kernel_rfl
theorem ty159 : mkTy Tryd.prog 159 = some { size := 4, bytes := 40, row := true, zero := [.sc (.pointer none), .sc (.pointer none), .sc (.pointer none), .sc (.string .empty)], kind := .struct [(0, 1, false), (1, 1, false), (2, 1, false), (3, 1, false)] } := by kernel_rfl
theorem ty160 : mkTy Tryd.prog 160 = some { size := 4, bytes := 40, row := true, zero := [.sc (.pointer none), .sc (.pointer none), .sc (.pointer none), .sc (.string .empty)], kind := .struct [(0, 1, false), (1, 1, false), (2, 1, false), (3, 1, false)] } := by kernel_rfl
theorem ty162 : mkTy Tryd.prog 162 = some { size := 0, bytes := 0, row := true, zero := [], kind := .struct [(0, 0, true)] } := by kernel_rfl
theorem ty163 : mkTy Tryd.prog 163 = some { size := 0, bytes := 0, row := true, zero := [], kind := .struct [(0, 0, true)] } := by kernel_rfl
theorem ty165 : mkTy Tryd.prog 165 = some { size := 1, bytes := 4, row := false, zero := [.sc (.int .u32 0)], kind := .int .u32 } := by kernel_rfl
theorem ty166 : mkTy Tryd.prog 166 = some { size := 1, bytes := 1, row := false, zero := [.sc (.int .u8 0)], kind := .int .u8 } := by kernel_rfl
theorem ty167 : mkTy Tryd.prog 167 = some { size := 1, bytes := 1, row := false, zero := [.sc (.int .u8 0)], kind := .int .u8 } := by kernel_rfl
theorem ty169 : mkTy Tryd.prog 169 = some { size := 1, bytes := 8, row := false, zero := [.sc (.pointer none)], kind := .other } := by kernel_rfl
theorem ty170 : mkTy Tryd.prog 170 = some { size := 1, bytes := 4, row := false, zero := [.sc (.int .i32 0)], kind := .int .i32 } := by kernel_rfl
theorem ty171 : mkTy Tryd.prog 171 = some { size := 1, bytes := 4, row := false, zero := [.sc (.int .i32 0)], kind := .int .i32 } := by kernel_rfl
theorem ty172 : mkTy Tryd.prog 172 = some { size := 11, bytes := 48, row := true, zero := [.sc (.int .u64 0), .sc (.int .u64 0), .sc (.int .u32 0), .sc (.int .u8 0), .sc (.int .u8 0), .sc (.int .u8 0), .sc (.int .u8 0), .sc .nilFunc, .sc (.pointer none), .sc (.int .i32 0), .sc (.int .i32 0)], kind := .struct [(0, 1, false), (1, 1, false), (2, 1, false), (3, 1, false), (4, 1, false), (5, 1, false), (6, 1, false), (7, 1, false), (8, 1, false), (9, 1, false), (10, 1, false)] } := by kernel_rfl
theorem ty173 : mkTy Tryd.prog 173 = some { size := 11, bytes := 48, row := true, zero := [.sc (.int .u64 0), .sc (.int .u64 0), .sc (.int .u32 0), .sc (.int .u8 0), .sc (.int .u8 0), .sc (.int .u8 0), .sc (.int .u8 0), .sc .nilFunc, .sc (.pointer none), .sc (.int .i32 0), .sc (.int .i32 0)], kind := .struct [(0, 1, false), (1, 1, false), (2, 1, false), (3, 1, false), (4, 1, false), (5, 1, false), (6, 1, false), (7, 1, false), (8, 1, false), (9, 1, false), (10, 1, false)] } := by kernel_rfl
theorem ty189 : mkTy Tryd.prog 189 = some { size := 1, bytes := 8, row := false, zero := [.sc (.pointer none)], kind := .other } := by kernel_rfl
def TL : List (Nat × TyI) := [(2, { size := 1, bytes := 8, row := false, zero := [.sc (.int .i64 0)], kind := .int .i64 }),
  (3, { size := 1, bytes := 8, row := false, zero := [.sc (.int .i64 0)], kind := .int .i64 }),
  (4, { size := 1, bytes := 1, row := false, zero := [.sc (.bool false)], kind := .bool }),
  (5, { size := 1, bytes := 1, row := false, zero := [.sc (.int .u8 0)], kind := .int .u8 }),
  (6, { size := 1, bytes := 1, row := false, zero := [.sc (.int .u8 0)], kind := .int .u8 }),
  (7, { size := 4, bytes := 24, row := true, zero := [.sc (.int .i64 0), .sc (.int .i64 0), .sc (.bool false), .sc (.int .u8 0)], kind := .struct [(0, 1, false), (1, 1, false), (2, 1, false), (3, 1, false)] }),
  (8, { size := 4, bytes := 24, row := true, zero := [.sc (.int .i64 0), .sc (.int .i64 0), .sc (.bool false), .sc (.int .u8 0)], kind := .struct [(0, 1, false), (1, 1, false), (2, 1, false), (3, 1, false)] }),
  (9, { size := 1, bytes := 16, row := false, zero := [.sc (.string .empty)], kind := .str }),
  (10, { size := 1, bytes := 16, row := false, zero := [.sc (.string .empty)], kind := .str }),
  (11, { size := 1, bytes := 16, row := false, zero := [.sc (.string .empty)], kind := .str }),
  (12, { size := 1, bytes := 8, row := false, zero := [.sc (.int .u64 0)], kind := .int .u64 }),
  (13, { size := 2, bytes := 24, row := true, zero := [.sc (.string .empty), .sc (.int .u64 0)], kind := .struct [(0, 1, false), (1, 1, false)] }),
  (14, { size := 2, bytes := 24, row := true, zero := [.sc (.string .empty), .sc (.int .u64 0)], kind := .struct [(0, 1, false), (1, 1, false)] }),
  (15, { size := 1, bytes := 8, row := false, zero := [.sc (.pointer none)], kind := .other }),
  (16, { size := 1, bytes := 8, row := false, zero := [.sc (.pointer none)], kind := .other }),
  (17, { size := 1, bytes := 8, row := false, zero := [.sc (.pointer none)], kind := .other }),
  (18, { size := 1, bytes := 8, row := true, zero := [.sc (.pointer none)], kind := .struct [(0, 1, false)] }),
  (19, { size := 1, bytes := 8, row := true, zero := [.sc (.pointer none)], kind := .struct [(0, 1, false)] }),
  (21, { size := 1, bytes := 4, row := false, zero := [.sc (.int .i32 0)], kind := .int .i32 }),
  (22, { size := 1, bytes := 24, row := false, zero := [.nl], kind := .slice 72 }),
  (23, { size := 1, bytes := 8, row := false, zero := [.sc (.int .u64 0)], kind := .int .u64 }),
  (24, { size := 4, bytes := 40, row := true, zero := [.sc (.int .i64 0), .sc (.int .i64 0), .sc (.int .u64 0), .sc (.string .empty)], kind := .struct [(0, 1, false), (1, 1, false), (2, 1, false), (3, 1, false)] }),
  (25, { size := 4, bytes := 40, row := true, zero := [.sc (.int .i64 0), .sc (.int .i64 0), .sc (.int .u64 0), .sc (.string .empty)], kind := .struct [(0, 1, false), (1, 1, false), (2, 1, false), (3, 1, false)] }),
  (26, { size := 1, bytes := 24, row := false, zero := [.nl], kind := .slice 28 }),
  (27, { size := 7, bytes := 88, row := true, zero := [.sc (.int .i64 0), .sc (.int .i64 0), .sc (.int .i64 0), .sc (.int .u64 0), .sc (.string .empty), .sc (.string .empty), .nl], kind := .struct [(0, 1, false), (1, 4, true), (5, 1, false), (6, 1, false)] }),
  (28, { size := 7, bytes := 88, row := true, zero := [.sc (.int .i64 0), .sc (.int .i64 0), .sc (.int .i64 0), .sc (.int .u64 0), .sc (.string .empty), .sc (.string .empty), .nl], kind := .struct [(0, 1, false), (1, 4, true), (5, 1, false), (6, 1, false)] }),
  (29, { size := 1, bytes := 24, row := false, zero := [.nl], kind := .slice 37 }),
  (30, { size := 1, bytes := 8, row := false, zero := [.sc (.pointer none)], kind := .other }),
  (33, { size := 1, bytes := 8, row := false, zero := [.sc (.int .i64 0)], kind := .int .i64 }),
  (36, { size := 3, bytes := 32, row := true, zero := [.sc (.string .empty), .sc (.int .i64 0), .sc (.bool false)], kind := .struct [(0, 1, false), (1, 1, false), (2, 1, false)] }),
  (37, { size := 3, bytes := 32, row := true, zero := [.sc (.string .empty), .sc (.int .i64 0), .sc (.bool false)], kind := .struct [(0, 1, false), (1, 1, false), (2, 1, false)] }),
  (41, { size := 1, bytes := 24, row := false, zero := [.nl], kind := .slice 25 }),
  (42, { size := 2, bytes := 32, row := true, zero := [.sc (.bool false), .nl], kind := .struct [(0, 1, false), (1, 1, false)] }),
  (43, { size := 2, bytes := 32, row := true, zero := [.sc (.bool false), .nl], kind := .struct [(0, 1, false), (1, 1, false)] }),
  (44, { size := 8, bytes := 128, row := true, zero := [.sc (.bool false), .nl, .sc (.bool false), .nl, .sc (.bool false), .nl, .sc (.bool false), .nl], kind := .array 4 43 2 true }),
  (45, { size := 16, bytes := 256, row := true, zero := [.sc (.bool false), .nl, .sc (.bool false), .nl, .sc (.bool false), .nl, .sc (.bool false), .nl, .sc (.bool false), .nl, .sc (.bool false), .nl, .sc (.bool false), .nl, .sc (.bool false), .nl], kind := .array 2 44 8 true }),
  (46, { size := 19, bytes := 304, row := true, zero := [.sc (.bool false), .sc (.string .empty), .nl, .sc (.bool false), .nl, .sc (.bool false), .nl, .sc (.bool false), .nl, .sc (.bool false), .nl, .sc (.bool false), .nl, .sc (.bool false), .nl, .sc (.bool false), .nl, .sc (.bool false), .nl], kind := .struct [(0, 1, false), (1, 1, false), (2, 1, false), (3, 16, true)] }),
  (47, { size := 19, bytes := 304, row := true, zero := [.sc (.bool false), .sc (.string .empty), .nl, .sc (.bool false), .nl, .sc (.bool false), .nl, .sc (.bool false), .nl, .sc (.bool false), .nl, .sc (.bool false), .nl, .sc (.bool false), .nl, .sc (.bool false), .nl, .sc (.bool false), .nl], kind := .struct [(0, 1, false), (1, 1, false), (2, 1, false), (3, 16, true)] }),
  (54, { size := 1, bytes := 24, row := false, zero := [.nl], kind := .slice 41 }),
  (57, { size := 2, bytes := 2, row := true, zero := [.sc (.bool false), .sc (.bool false)], kind := .array 2 4 1 false }),
  (69, { size := 1, bytes := 8, row := false, zero := [.sc (.int .u64 0)], kind := .int .u64 }),
  (71, { size := 4, bytes := 40, row := true, zero := [.sc (.int .i64 0), .sc (.int .i64 0), .sc (.int .i64 0), .sc (.string .empty)], kind := .struct [(0, 1, false), (1, 1, false), (2, 1, false), (3, 1, false)] }),
  (72, { size := 4, bytes := 40, row := true, zero := [.sc (.int .i64 0), .sc (.int .i64 0), .sc (.int .i64 0), .sc (.string .empty)], kind := .struct [(0, 1, false), (1, 1, false), (2, 1, false), (3, 1, false)] }),
  (79, { size := 3, bytes := 56, row := true, zero := [.nl, .sc (.int .i64 0), .nl], kind := .struct [(0, 1, false), (1, 1, false), (2, 1, false)] }),
  (80, { size := 3, bytes := 56, row := true, zero := [.nl, .sc (.int .i64 0), .nl], kind := .struct [(0, 1, false), (1, 1, false), (2, 1, false)] }),
  (91, { size := 2, bytes := 16, row := true, zero := [.sc (.int .i64 0), .sc (.int .i64 0)], kind := .struct [(0, 1, false), (1, 1, false)] }),
  (92, { size := 2, bytes := 16, row := true, zero := [.sc (.int .i64 0), .sc (.int .i64 0)], kind := .struct [(0, 1, false), (1, 1, false)] }),
  (98, { size := 2, bytes := 16, row := true, zero := [.sc (.int .i64 0), .sc (.bool false)], kind := .struct [(0, 1, false), (1, 1, false)] }),
  (99, { size := 2, bytes := 16, row := true, zero := [.sc (.int .i64 0), .sc (.bool false)], kind := .struct [(0, 1, false), (1, 1, false)] }),
  (107, { size := 4, bytes := 40, row := true, zero := [.sc (.int .i64 0), .sc (.string .empty), .sc (.int .i64 0), .sc (.int .u64 0)], kind := .struct [(0, 1, false), (1, 1, false), (2, 1, false), (3, 1, false)] }),
  (108, { size := 4, bytes := 40, row := true, zero := [.sc (.int .i64 0), .sc (.string .empty), .sc (.int .i64 0), .sc (.int .u64 0)], kind := .struct [(0, 1, false), (1, 1, false), (2, 1, false), (3, 1, false)] }),
  (112, { size := 1, bytes := 16, row := false, zero := [.sc .nilIface], kind := .other }),
  (118, { size := 1, bytes := 24, row := false, zero := [.nl], kind := .slice 3 }),
  (123, { size := 4, bytes := 32, row := true, zero := [.sc (.int .i64 0), .sc (.bool false), .sc (.int .i64 0), .sc (.bool false)], kind := .array 2 99 2 true }),
  (130, { size := 1, bytes := 24, row := false, zero := [.nl], kind := .slice 43 }),
  (131, { size := 2, bytes := 24, row := true, zero := [.sc (.int .i64 0), .sc .nilIface], kind := .struct [(0, 1, false), (1, 1, false)] }),
  (132, { size := 2, bytes := 24, row := true, zero := [.sc (.int .i64 0), .sc .nilIface], kind := .struct [(0, 1, false), (1, 1, false)] }),
  (133, { size := 3, bytes := 40, row := true, zero := [.sc (.int .i64 0), .sc .nilIface, .sc .nilIface], kind := .struct [(0, 1, false), (1, 1, false), (2, 1, false)] }),
  (134, { size := 3, bytes := 40, row := true, zero := [.sc (.int .i64 0), .sc .nilIface, .sc .nilIface], kind := .struct [(0, 1, false), (1, 1, false), (2, 1, false)] }),
  (135, { size := 4, bytes := 40, row := true, zero := [.sc (.int .i64 0), .sc (.int .i64 0), .sc (.int .u64 0), .sc (.string .empty)], kind := .struct [(0, 4, true)] }),
  (136, { size := 4, bytes := 40, row := true, zero := [.sc (.int .i64 0), .sc (.int .i64 0), .sc (.int .u64 0), .sc (.string .empty)], kind := .struct [(0, 4, true)] }),
  (137, { size := 1, bytes := 8, row := true, zero := [.sc (.int .i64 0)], kind := .struct [(0, 1, false)] }),
  (138, { size := 1, bytes := 8, row := true, zero := [.sc (.int .i64 0)], kind := .struct [(0, 1, false)] }),
  (139, { size := 0, bytes := 0, row := true, zero := [], kind := .struct [] }),
  (140, { size := 0, bytes := 0, row := true, zero := [], kind := .struct [] }),
  (144, { size := 1, bytes := 24, row := false, zero := [.nl], kind := .slice 99 }),
  (148, { size := 1, bytes := 8, row := false, zero := [.sc (.pointer none)], kind := .other }),
  (150, { size := 256, bytes := 256, row := true, zero := List.replicate 256 (.sc (.int .u8 0)), kind := .array 256 5 1 false }),
  (151, { size := 2, bytes := 2, row := true, zero := [.sc (.int .u8 0), .sc (.int .u8 0)], kind := .struct [(0, 1, false), (1, 1, false)] }),
  (152, { size := 2, bytes := 2, row := true, zero := [.sc (.int .u8 0), .sc (.int .u8 0)], kind := .struct [(0, 1, false), (1, 1, false)] }),
  (153, { size := 32, bytes := 32, row := true, zero := List.replicate 32 (.sc (.int .u8 0)), kind := .array 16 152 2 true }),
  (154, { size := 1, bytes := 8, row := false, zero := [.sc (.float .f64 0)], kind := .other }),
  (159, { size := 4, bytes := 40, row := true, zero := [.sc (.pointer none), .sc (.pointer none), .sc (.pointer none), .sc (.string .empty)], kind := .struct [(0, 1, false), (1, 1, false), (2, 1, false), (3, 1, false)] }),
  (160, { size := 4, bytes := 40, row := true, zero := [.sc (.pointer none), .sc (.pointer none), .sc (.pointer none), .sc (.string .empty)], kind := .struct [(0, 1, false), (1, 1, false), (2, 1, false), (3, 1, false)] }),
  (162, { size := 0, bytes := 0, row := true, zero := [], kind := .struct [(0, 0, true)] }),
  (163, { size := 0, bytes := 0, row := true, zero := [], kind := .struct [(0, 0, true)] }),
  (165, { size := 1, bytes := 4, row := false, zero := [.sc (.int .u32 0)], kind := .int .u32 }),
  (166, { size := 1, bytes := 1, row := false, zero := [.sc (.int .u8 0)], kind := .int .u8 }),
  (167, { size := 1, bytes := 1, row := false, zero := [.sc (.int .u8 0)], kind := .int .u8 }),
  (169, { size := 1, bytes := 8, row := false, zero := [.sc (.pointer none)], kind := .other }),
  (170, { size := 1, bytes := 4, row := false, zero := [.sc (.int .i32 0)], kind := .int .i32 }),
  (171, { size := 1, bytes := 4, row := false, zero := [.sc (.int .i32 0)], kind := .int .i32 }),
  (172, { size := 11, bytes := 48, row := true, zero := [.sc (.int .u64 0), .sc (.int .u64 0), .sc (.int .u32 0), .sc (.int .u8 0), .sc (.int .u8 0), .sc (.int .u8 0), .sc (.int .u8 0), .sc .nilFunc, .sc (.pointer none), .sc (.int .i32 0), .sc (.int .i32 0)], kind := .struct [(0, 1, false), (1, 1, false), (2, 1, false), (3, 1, false), (4, 1, false), (5, 1, false), (6, 1, false), (7, 1, false), (8, 1, false), (9, 1, false), (10, 1, false)] }),
  (173, { size := 11, bytes := 48, row := true, zero := [.sc (.int .u64 0), .sc (.int .u64 0), .sc (.int .u32 0), .sc (.int .u8 0), .sc (.int .u8 0), .sc (.int .u8 0), .sc (.int .u8 0), .sc .nilFunc, .sc (.pointer none), .sc (.int .i32 0), .sc (.int .i32 0)], kind := .struct [(0, 1, false), (1, 1, false), (2, 1, false), (3, 1, false), (4, 1, false), (5, 1, false), (6, 1, false), (7, 1, false), (8, 1, false), (9, 1, false), (10, 1, false)] }),
  (189, { size := 1, bytes := 8, row := false, zero := [.sc (.pointer none)], kind := .other })]
theorem tlAll : ∀ p ∈ TL, mkTy Tryd.prog p.1 = some p.2 := by
  unfold TL
  refine List.forall_mem_cons.2 ⟨ty2, ?_⟩
  refine List.forall_mem_cons.2 ⟨ty3, ?_⟩
  refine List.forall_mem_cons.2 ⟨ty4, ?_⟩
  refine List.forall_mem_cons.2 ⟨ty5, ?_⟩
  refine List.forall_mem_cons.2 ⟨ty6, ?_⟩
  refine List.forall_mem_cons.2 ⟨ty7, ?_⟩
  refine List.forall_mem_cons.2 ⟨ty8, ?_⟩
  refine List.forall_mem_cons.2 ⟨ty9, ?_⟩
  refine List.forall_mem_cons.2 ⟨ty10, ?_⟩
  refine List.forall_mem_cons.2 ⟨ty11, ?_⟩
  refine List.forall_mem_cons.2 ⟨ty12, ?_⟩
  refine List.forall_mem_cons.2 ⟨ty13, ?_⟩
  refine List.forall_mem_cons.2 ⟨ty14, ?_⟩
  refine List.forall_mem_cons.2 ⟨ty15, ?_⟩
  refine List.forall_mem_cons.2 ⟨ty16, ?_⟩
  refine List.forall_mem_cons.2 ⟨ty17, ?_⟩
  refine List.forall_mem_cons.2 ⟨ty18, ?_⟩
  refine List.forall_mem_cons.2 ⟨ty19, ?_⟩
  refine List.forall_mem_cons.2 ⟨ty21, ?_⟩
  refine List.forall_mem_cons.2 ⟨ty22, ?_⟩
  refine List.forall_mem_cons.2 ⟨ty23, ?_⟩
  refine List.forall_mem_cons.2 ⟨ty24, ?_⟩
  refine List.forall_mem_cons.2 ⟨ty25, ?_⟩
  refine List.forall_mem_cons.2 ⟨ty26, ?_⟩
  refine List.forall_mem_cons.2 ⟨ty27, ?_⟩
  refine List.forall_mem_cons.2 ⟨ty28, ?_⟩
  refine List.forall_mem_cons.2 ⟨ty29, ?_⟩
  refine List.forall_mem_cons.2 ⟨ty30, ?_⟩
  refine List.forall_mem_cons.2 ⟨ty33, ?_⟩
  refine List.forall_mem_cons.2 ⟨ty36, ?_⟩
  refine List.forall_mem_cons.2 ⟨ty37, ?_⟩
  refine List.forall_mem_cons.2 ⟨ty41, ?_⟩
  refine List.forall_mem_cons.2 ⟨ty42, ?_⟩
  refine List.forall_mem_cons.2 ⟨ty43, ?_⟩
  refine List.forall_mem_cons.2 ⟨ty44, ?_⟩
  refine List.forall_mem_cons.2 ⟨ty45, ?_⟩
  refine List.forall_mem_cons.2 ⟨ty46, ?_⟩
  refine List.forall_mem_cons.2 ⟨ty47, ?_⟩
  refine List.forall_mem_cons.2 ⟨ty54, ?_⟩
  refine List.forall_mem_cons.2 ⟨ty57, ?_⟩
  refine List.forall_mem_cons.2 ⟨ty69, ?_⟩
  refine List.forall_mem_cons.2 ⟨ty71, ?_⟩
  refine List.forall_mem_cons.2 ⟨ty72, ?_⟩
  refine List.forall_mem_cons.2 ⟨ty79, ?_⟩
  refine List.forall_mem_cons.2 ⟨ty80, ?_⟩
  refine List.forall_mem_cons.2 ⟨ty91, ?_⟩
  refine List.forall_mem_cons.2 ⟨ty92, ?_⟩
  refine List.forall_mem_cons.2 ⟨ty98, ?_⟩
  refine List.forall_mem_cons.2 ⟨ty99, ?_⟩
  refine List.forall_mem_cons.2 ⟨ty107, ?_⟩
  refine List.forall_mem_cons.2 ⟨ty108, ?_⟩
  refine List.forall_mem_cons.2 ⟨ty112, ?_⟩
  refine List.forall_mem_cons.2 ⟨ty118, ?_⟩
  refine List.forall_mem_cons.2 ⟨ty123, ?_⟩
  refine List.forall_mem_cons.2 ⟨ty130, ?_⟩
  refine List.forall_mem_cons.2 ⟨ty131, ?_⟩
  refine List.forall_mem_cons.2 ⟨ty132, ?_⟩
  refine List.forall_mem_cons.2 ⟨ty133, ?_⟩
  refine List.forall_mem_cons.2 ⟨ty134, ?_⟩
  refine List.forall_mem_cons.2 ⟨ty135, ?_⟩
  refine List.forall_mem_cons.2 ⟨ty136, ?_⟩
  refine List.forall_mem_cons.2 ⟨ty137, ?_⟩
  refine List.forall_mem_cons.2 ⟨ty138, ?_⟩
  refine List.forall_mem_cons.2 ⟨ty139, ?_⟩
  refine List.forall_mem_cons.2 ⟨ty140, ?_⟩
  refine List.forall_mem_cons.2 ⟨ty144, ?_⟩
  refine List.forall_mem_cons.2 ⟨ty148, ?_⟩
  refine List.forall_mem_cons.2 ⟨ty150, ?_⟩
  refine List.forall_mem_cons.2 ⟨ty151, ?_⟩
  refine List.forall_mem_cons.2 ⟨ty152, ?_⟩
  refine List.forall_mem_cons.2 ⟨ty153, ?_⟩
  refine List.forall_mem_cons.2 ⟨ty154, ?_⟩
  refine List.forall_mem_cons.2 ⟨ty159, ?_⟩
  refine List.forall_mem_cons.2 ⟨ty160, ?_⟩
  refine List.forall_mem_cons.2 ⟨ty162, ?_⟩
  refine List.forall_mem_cons.2 ⟨ty163, ?_⟩
  refine List.forall_mem_cons.2 ⟨ty165, ?_⟩
  refine List.forall_mem_cons.2 ⟨ty166, ?_⟩
  refine List.forall_mem_cons.2 ⟨ty167, ?_⟩
  refine List.forall_mem_cons.2 ⟨ty169, ?_⟩
  refine List.forall_mem_cons.2 ⟨ty170, ?_⟩
  refine List.forall_mem_cons.2 ⟨ty171, ?_⟩
  refine List.forall_mem_cons.2 ⟨ty172, ?_⟩
  refine List.forall_mem_cons.2 ⟨ty173, ?_⟩
  refine List.forall_mem_cons.2 ⟨ty189, ?_⟩
  exact List.forall_mem_nil _
theorem tyOk {T : TypeId} {t : TyI} (h : look T TL = some t) : mkTy Tryd.prog T = some t := tlAll (T, t) (look_mem h)
theorem tg24 : tagsOf Tryd.prog 24 = some [.i, .i, .i, .s] := by kernel_rfl
theorem tg25 : tagsOf Tryd.prog 25 = some [.i, .i, .i, .s] := by kernel_rfl
theorem tg36 : tagsOf Tryd.prog 36 = some [.s, .i, .b] := by kernel_rfl
theorem tg37 : tagsOf Tryd.prog 37 = some [.s, .i, .b] := by kernel_rfl
theorem tg71 : tagsOf Tryd.prog 71 = some [.i, .i, .i, .s] := by kernel_rfl
theorem tg72 : tagsOf Tryd.prog 72 = some [.i, .i, .i, .s] := by kernel_rfl
theorem tg91 : tagsOf Tryd.prog 91 = some [.i, .i] := by kernel_rfl
theorem tg92 : tagsOf Tryd.prog 92 = some [.i, .i] := by kernel_rfl
theorem tg98 : tagsOf Tryd.prog 98 = some [.i, .b] := by kernel_rfl
theorem tg99 : tagsOf Tryd.prog 99 = some [.i, .b] := by kernel_rfl
theorem tg107 : tagsOf Tryd.prog 107 = some [.i, .s, .i, .i] := by kernel_rfl
theorem tg108 : tagsOf Tryd.prog 108 = some [.i, .s, .i, .i] := by kernel_rfl
theorem tg137 : tagsOf Tryd.prog 137 = some [.i] := by kernel_rfl
theorem tg138 : tagsOf Tryd.prog 138 = some [.i] := by kernel_rfl
theorem tg151 : tagsOf Tryd.prog 151 = some [.i, .i] := by kernel_rfl
theorem tg152 : tagsOf Tryd.prog 152 = some [.i, .i] := by kernel_rfl
def TG : List (Nat × List Tag) := [(24, [.i, .i, .i, .s]), (25, [.i, .i, .i, .s]), (36, [.s, .i, .b]), (37, [.s, .i, .b]), (71, [.i, .i, .i, .s]), (72, [.i, .i, .i, .s]), (91, [.i, .i]), (92, [.i, .i]), (98, [.i, .b]), (99, [.i, .b]), (107, [.i, .s, .i, .i]), (108, [.i, .s, .i, .i]), (137, [.i]), (138, [.i]), (151, [.i, .i]), (152, [.i, .i])]
theorem tgAll : ∀ p ∈ TG, tagsOf Tryd.prog p.1 = some p.2 := by
  unfold TG
  refine List.forall_mem_cons.2 ⟨tg24, ?_⟩
  refine List.forall_mem_cons.2 ⟨tg25, ?_⟩
  refine List.forall_mem_cons.2 ⟨tg36, ?_⟩
  refine List.forall_mem_cons.2 ⟨tg37, ?_⟩
  refine List.forall_mem_cons.2 ⟨tg71, ?_⟩
  refine List.forall_mem_cons.2 ⟨tg72, ?_⟩
  refine List.forall_mem_cons.2 ⟨tg91, ?_⟩
  refine List.forall_mem_cons.2 ⟨tg92, ?_⟩
  refine List.forall_mem_cons.2 ⟨tg98, ?_⟩
  refine List.forall_mem_cons.2 ⟨tg99, ?_⟩
  refine List.forall_mem_cons.2 ⟨tg107, ?_⟩
  refine List.forall_mem_cons.2 ⟨tg108, ?_⟩
  refine List.forall_mem_cons.2 ⟨tg137, ?_⟩
  refine List.forall_mem_cons.2 ⟨tg138, ?_⟩
  refine List.forall_mem_cons.2 ⟨tg151, ?_⟩
  refine List.forall_mem_cons.2 ⟨tg152, ?_⟩
  exact List.forall_mem_nil _
theorem tgOk {T : TypeId} {t : List Tag} (h : look T TG = some t) : tagsOf Tryd.prog T = some t := tgAll (T, t) (look_mem h)
theorem mixed : Tryd.prog.follows .mixedOrders = true := by kernel_rfl
end Go.Proofs.YtnkpnnphmimagaaDoor

