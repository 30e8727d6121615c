/-
  The table of the types that the walks meet. No condition.
-/
import Derived.Test.YtagbajdjpfafoaaDoorZB
import Derived.Test.YtagbajdjpfafoaaDoorProg
namespace Go.Proofs.YtagbajdjpfafoaaDoor
open Go.RowKit
theorem ty2 : mkTy Tryd.prog 2 = some { size := 1, bytes := 8, row := false, zero := [.sc (.int .i64 0)], kind := .int .i64 } := by kernel_rfl
theorem ty3 : mkTy Tryd.prog 3 = some { size := 1, bytes := 8, row := false, zero := [.sc (.int .i64 0)], kind := .int .i64 } := by kernel_rfl
theorem ty4 : mkTy Tryd.prog 4 = some { size := 1, bytes := 1, row := false, zero := [.sc (.bool false)], kind := .bool } := by kernel_rfl
theorem ty5 : mkTy Tryd.prog 5 = some { size := 1, bytes := 1, row := false, zero := [.sc (.int .u8 0)], kind := .int .u8 } := by kernel_rfl
theorem ty6 : mkTy Tryd.prog 6 = some { size := 1, bytes := 1, row := false, zero := [.sc (.int .u8 0)], kind := .int .u8 } := by kernel_rfl
theorem ty7 : mkTy Tryd.prog 7 = some { size := 4, bytes := 24, row := true, zero := [.sc (.int .i64 0), .sc (.int .i64 0), .sc (.bool false), .sc (.int .u8 0)], kind := .struct [(0, 1, false), (1, 1, false), (2, 1, false), (3, 1, false)] } := by kernel_rfl
theorem ty8 : mkTy Tryd.prog 8 = some { size := 4, bytes := 24, row := true, zero := [.sc (.int .i64 0), .sc (.int .i64 0), .sc (.bool false), .sc (.int .u8 0)], kind := .struct [(0, 1, false), (1, 1, false), (2, 1, false), (3, 1, false)] } := by kernel_rfl
theorem ty9 : mkTy Tryd.prog 9 = some { size := 1, bytes := 16, row := false, zero := [.sc (.string .empty)], kind := .str } := by kernel_rfl
theorem ty10 : mkTy Tryd.prog 10 = some { size := 1, bytes := 16, row := false, zero := [.sc (.string .empty)], kind := .str } := by kernel_rfl
theorem ty11 : mkTy Tryd.prog 11 = some { size := 1, bytes := 16, row := false, zero := [.sc (.string .empty)], kind := .str } := by kernel_rfl
theorem ty12 : mkTy Tryd.prog 12 = some { size := 1, bytes := 8, row := false, zero := [.sc (.int .u64 0)], kind := .int .u64 } := by kernel_rfl
theorem ty13 : mkTy Tryd.prog 13 = some { size := 2, bytes := 24, row := true, zero := [.sc (.string .empty), .sc (.int .u64 0)], kind := .struct [(0, 1, false), (1, 1, false)] } := by kernel_rfl
theorem ty14 : mkTy Tryd.prog 14 = some { size := 2, bytes := 24, row := true, zero := [.sc (.string .empty), .sc (.int .u64 0)], kind := .struct [(0, 1, false), (1, 1, false)] } := by kernel_rfl
theorem ty15 : mkTy Tryd.prog 15 = some { size := 1, bytes := 8, row := false, zero := [.sc (.pointer none)], kind := .other } := by kernel_rfl
theorem ty16 : mkTy Tryd.prog 16 = some { size := 1, bytes := 8, row := false, zero := [.sc (.pointer none)], kind := .other } := by kernel_rfl
theorem ty17 : mkTy Tryd.prog 17 = some { size := 1, bytes := 8, row := false, zero := [.sc (.pointer none)], kind := .other } := by kernel_rfl
theorem ty18 : mkTy Tryd.prog 18 = some { size := 1, bytes := 8, row := true, zero := [.sc (.pointer none)], kind := .struct [(0, 1, false)] } := by kernel_rfl
theorem ty19 : mkTy Tryd.prog 19 = some { size := 1, bytes := 8, row := true, zero := [.sc (.pointer none)], kind := .struct [(0, 1, false)] } := by kernel_rfl
theorem ty21 : mkTy Tryd.prog 21 = some { size := 1, bytes := 4, row := false, zero := [.sc (.int .i32 0)], kind := .int .i32 } := by kernel_rfl
theorem ty22 : mkTy Tryd.prog 22 = some { size := 1, bytes := 24, row := false, zero := [.nl], kind := .slice 29 } := by kernel_rfl
theorem ty24 : mkTy Tryd.prog 24 = some { size := 1, bytes := 24, row := false, zero := [.nl], kind := .slice 31 } := by kernel_rfl
theorem ty25 : mkTy Tryd.prog 25 = some { size := 1, bytes := 24, row := false, zero := [.nl], kind := .slice 40 } := by kernel_rfl
theorem ty28 : mkTy Tryd.prog 28 = some { size := 4, bytes := 40, row := true, zero := [.sc (.int .i64 0), .sc (.int .i64 0), .sc (.int .i64 0), .sc (.string .empty)], kind := .struct [(0, 1, false), (1, 1, false), (2, 1, false), (3, 1, false)] } := by kernel_rfl
theorem ty29 : mkTy Tryd.prog 29 = some { size := 4, bytes := 40, row := true, zero := [.sc (.int .i64 0), .sc (.int .i64 0), .sc (.int .i64 0), .sc (.string .empty)], kind := .struct [(0, 1, false), (1, 1, false), (2, 1, false), (3, 1, false)] } := by kernel_rfl
theorem ty31 : mkTy Tryd.prog 31 = some { size := 1, bytes := 24, row := false, zero := [.nl], kind := .slice 5 } := by kernel_rfl
theorem ty32 : mkTy Tryd.prog 32 = some { size := 1, bytes := 8, row := false, zero := [.sc (.int .i64 0)], kind := .int .i64 } := by kernel_rfl
theorem ty39 : mkTy Tryd.prog 39 = some { size := 3, bytes := 56, row := true, zero := [.sc (.bool false), .nl, .nl], kind := .struct [(0, 1, false), (1, 1, false), (2, 1, false)] } := by kernel_rfl
theorem ty40 : mkTy Tryd.prog 40 = some { size := 3, bytes := 56, row := true, zero := [.sc (.bool false), .nl, .nl], kind := .struct [(0, 1, false), (1, 1, false), (2, 1, false)] } := by kernel_rfl
theorem ty44 : mkTy Tryd.prog 44 = some { size := 1, bytes := 24, row := false, zero := [.nl], kind := .slice 24 } := by kernel_rfl
theorem ty48 : mkTy Tryd.prog 48 = some { size := 1, bytes := 24, row := false, zero := [.nl], kind := .slice 4 } := by kernel_rfl
theorem ty50 : mkTy Tryd.prog 50 = some { size := 2, bytes := 48, row := true, zero := [.nl, .nl], kind := .struct [(0, 1, false), (1, 1, false)] } := by kernel_rfl
theorem ty51 : mkTy Tryd.prog 51 = some { size := 2, bytes := 48, row := true, zero := [.nl, .nl], kind := .struct [(0, 1, false), (1, 1, false)] } := by kernel_rfl
theorem ty61 : mkTy Tryd.prog 61 = some { size := 1, bytes := 24, row := false, zero := [.nl], kind := .slice 51 } := by kernel_rfl
theorem ty75 : mkTy Tryd.prog 75 = some { size := 1, bytes := 8, row := false, zero := [.sc (.pointer none)], kind := .other } := by kernel_rfl
theorem ty76 : mkTy Tryd.prog 76 = some { size := 1, bytes := 8, row := false, zero := [.sc (.int .u64 0)], kind := .int .u64 } := by kernel_rfl
theorem ty79 : mkTy Tryd.prog 79 = some { size := 32, bytes := 32, row := true, zero := List.replicate 32 (.sc (.int .u8 0)), kind := .array 32 5 1 false } := by kernel_rfl
theorem ty86 : mkTy Tryd.prog 86 = some { size := 64, bytes := 64, row := true, zero := List.replicate 64 (.sc (.int .u8 0)), kind := .array 64 5 1 false } := by kernel_rfl
theorem ty88 : mkTy Tryd.prog 88 = some { size := 1, bytes := 4, row := false, zero := [.sc (.int .u32 0)], kind := .int .u32 } := by kernel_rfl
theorem ty89 : mkTy Tryd.prog 89 = some { size := 8, bytes := 32, row := true, zero := [.sc (.int .u32 0), .sc (.int .u32 0), .sc (.int .u32 0), .sc (.int .u32 0), .sc (.int .u32 0), .sc (.int .u32 0), .sc (.int .u32 0), .sc (.int .u32 0)], kind := .array 8 88 1 false } := by kernel_rfl
theorem ty90 : mkTy Tryd.prog 90 = some { size := 74, bytes := 112, row := true, zero := [.sc (.int .u32 0), .sc (.int .u32 0), .sc (.int .u32 0), .sc (.int .u32 0), .sc (.int .u32 0), .sc (.int .u32 0), .sc (.int .u32 0), .sc (.int .u32 0), .sc (.int .u8 0), .sc (.int .u8 0), .sc (.int .u8 0), .sc (.int .u8 0), .sc (.int .u8 0), .sc (.int .u8 0), .sc (.int .u8 0), .sc (.int .u8 0), .sc (.int .u8 0), .sc (.int .u8 0), .sc (.int .u8 0), .sc (.int .u8 0), .sc (.int .u8 0), .sc (.int .u8 0), .sc (.int .u8 0), .sc (.int .u8 0), .sc (.int .u8 0), .sc (.int .u8 0), .sc (.int .u8 0), .sc (.int .u8 0), .sc (.int .u8 0), .sc (.int .u8 0), .sc (.int .u8 0), .sc (.int .u8 0), .sc (.int .u8 0), .sc (.int .u8 0), .sc (.int .u8 0), .sc (.int .u8 0), .sc (.int .u8 0), .sc (.int .u8 0), .sc (.int .u8 0), .sc (.int .u8 0), .sc (.int .u8 0), .sc (.int .u8 0), .sc (.int .u8 0), .sc (.int .u8 0), .sc (.int .u8 0), .sc (.int .u8 0), .sc (.int .u8 0), .sc (.int .u8 0), .sc (.int .u8 0), .sc (.int .u8 0), .sc (.int .u8 0), .sc (.int .u8 0), .sc (.int .u8 0), .sc (.int .u8 0), .sc (.int .u8 0), .sc (.int .u8 0), .sc (.int .u8 0), .sc (.int .u8 0), .sc (.int .u8 0), .sc (.int .u8 0), .sc (.int .u8 0), .sc (.int .u8 0), .sc (.int .u8 0), .sc (.int .u8 0), .sc (.int .u8 0), .sc (.int .u8 0), .sc (.int .u8 0), .sc (.int .u8 0), .sc (.int .u8 0), .sc (.int .u8 0), .sc (.int .u8 0), .sc (.int .u8 0), .sc (.int .i64 0), .sc (.int .i64 0)], kind := .struct [(0, 8, true), (8, 64, true), (72, 1, false), (73, 1, false)] } := by kernel_rfl
theorem ty91 : mkTy Tryd.prog 91 = some { size := 74, bytes := 112, row := true, zero := [.sc (.int .u32 0), .sc (.int .u32 0), .sc (.int .u32 0), .sc (.int .u32 0), .sc (.int .u32 0), .sc (.int .u32 0), .sc (.int .u32 0), .sc (.int .u32 0), .sc (.int .u8 0), .sc (.int .u8 0), .sc (.int .u8 0), .sc (.int .u8 0), .sc (.int .u8 0), .sc (.int .u8 0), .sc (.int .u8 0), .sc (.int .u8 0), .sc (.int .u8 0), .sc (.int .u8 0), .sc (.int .u8 0), .sc (.int .u8 0), .sc (.int .u8 0), .sc (.int .u8 0), .sc (.int .u8 0), .sc (.int .u8 0), .sc (.int .u8 0), .sc (.int .u8 0), .sc (.int .u8 0), .sc (.int .u8 0), .sc (.int .u8 0), .sc (.int .u8 0), .sc (.int .u8 0), .sc (.int .u8 0), .sc (.int .u8 0), .sc (.int .u8 0), .sc (.int .u8 0), .sc (.int .u8 0), .sc (.int .u8 0), .sc (.int .u8 0), .sc (.int .u8 0), .sc (.int .u8 0), .sc (.int .u8 0), .sc (.int .u8 0), .sc (.int .u8 0), .sc (.int .u8 0), .sc (.int .u8 0), .sc (.int .u8 0), .sc (.int .u8 0), .sc (.int .u8 0), .sc (.int .u8 0), .sc (.int .u8 0), .sc (.int .u8 0), .sc (.int .u8 0), .sc (.int .u8 0), .sc (.int .u8 0), .sc (.int .u8 0), .sc (.int .u8 0), .sc (.int .u8 0), .sc (.int .u8 0), .sc (.int .u8 0), .sc (.int .u8 0), .sc (.int .u8 0), .sc (.int .u8 0), .sc (.int .u8 0), .sc (.int .u8 0), .sc (.int .u8 0), .sc (.int .u8 0), .sc (.int .u8 0), .sc (.int .u8 0), .sc (.int .u8 0), .sc (.int .u8 0), .sc (.int .u8 0), .sc (.int .u8 0), .sc (.int .i64 0), .sc (.int .i64 0)], kind := .struct [(0, 8, true), (8, 64, true), (72, 1, false), (73, 1, false)] } := by kernel_rfl
theorem ty94 : mkTy Tryd.prog 94 = some { size := 1, bytes := 8, row := false, zero := [.sc (.int .u64 0)], kind := .int .u64 } := by kernel_rfl
theorem ty96 : mkTy Tryd.prog 96 = some { size := 64, bytes := 256, row := true, zero := List.replicate 64 (.sc (.int .u32 0)), kind := .array 64 88 1 false } := by kernel_rfl
theorem ty99 : mkTy Tryd.prog 99 = some { size := 4, bytes := 40, row := true, zero := [.sc (.pointer none), .sc (.pointer none), .sc (.pointer none), .sc (.string .empty)], kind := .struct [(0, 1, false), (1, 1, false), (2, 1, false), (3, 1, false)] } := by kernel_rfl
theorem ty100 : mkTy Tryd.prog 100 = some { size := 4, bytes := 40, row := true, zero := [.sc (.pointer none), .sc (.pointer none), .sc (.pointer none), .sc (.string .empty)], kind := .struct [(0, 1, false), (1, 1, false), (2, 1, false), (3, 1, false)] } := by kernel_rfl
theorem ty105 : mkTy Tryd.prog 105 = some { size := 1, bytes := 1, row := false, zero := [.sc (.int .u8 0)], kind := .int .u8 } := by kernel_rfl
theorem ty106 : mkTy Tryd.prog 106 = some { size := 1, bytes := 1, row := false, zero := [.sc (.int .u8 0)], kind := .int .u8 } := by kernel_rfl
theorem ty108 : mkTy Tryd.prog 108 = some { size := 1, bytes := 8, row := false, zero := [.sc (.pointer none)], kind := .other } := by kernel_rfl
theorem ty109 : mkTy Tryd.prog 109 = some { size := 1, bytes := 4, row := false, zero := [.sc (.int .i32 0)], kind := .int .i32 } := by kernel_rfl
theorem ty110 : mkTy Tryd.prog 110 = some { size := 1, bytes := 4, row := false, zero := [.sc (.int .i32 0)], kind := .int .i32 } := by kernel_rfl
theorem ty111 : mkTy Tryd.prog 111 = some { size := 11, bytes := 48, row := true, zero := [.sc (.int .u64 0), .sc (.int .u64 0), .sc (.int .u32 0), .sc (.int .u8 0), .sc (.int .u8 0), .sc (.int .u8 0), .sc (.int .u8 0), .sc .nilFunc, .sc (.pointer none), .sc (.int .i32 0), .sc (.int .i32 0)], kind := .struct [(0, 1, false), (1, 1, false), (2, 1, false), (3, 1, false), (4, 1, false), (5, 1, false), (6, 1, false), (7, 1, false), (8, 1, false), (9, 1, false), (10, 1, false)] } := by kernel_rfl
theorem ty112 : mkTy Tryd.prog 112 = some { size := 11, bytes := 48, row := true, zero := [.sc (.int .u64 0), .sc (.int .u64 0), .sc (.int .u32 0), .sc (.int .u8 0), .sc (.int .u8 0), .sc (.int .u8 0), .sc (.int .u8 0), .sc .nilFunc, .sc (.pointer none), .sc (.int .i32 0), .sc (.int .i32 0)], kind := .struct [(0, 1, false), (1, 1, false), (2, 1, false), (3, 1, false), (4, 1, false), (5, 1, false), (6, 1, false), (7, 1, false), (8, 1, false), (9, 1, false), (10, 1, false)] } := by kernel_rfl
theorem ty113 : mkTy Tryd.prog 113 = some { size := 1, bytes := 8, row := false, zero := [.sc (.pointer none)], kind := .other } := by kernel_rfl
def TL : List (Nat × TyI) := [(2, { size := 1, bytes := 8, row := false, zero := [.sc (.int .i64 0)], kind := .int .i64 }),
  (3, { size := 1, bytes := 8, row := false, zero := [.sc (.int .i64 0)], kind := .int .i64 }),
  (4, { size := 1, bytes := 1, row := false, zero := [.sc (.bool false)], kind := .bool }),
  (5, { size := 1, bytes := 1, row := false, zero := [.sc (.int .u8 0)], kind := .int .u8 }),
  (6, { size := 1, bytes := 1, row := false, zero := [.sc (.int .u8 0)], kind := .int .u8 }),
  (7, { size := 4, bytes := 24, row := true, zero := [.sc (.int .i64 0), .sc (.int .i64 0), .sc (.bool false), .sc (.int .u8 0)], kind := .struct [(0, 1, false), (1, 1, false), (2, 1, false), (3, 1, false)] }),
  (8, { size := 4, bytes := 24, row := true, zero := [.sc (.int .i64 0), .sc (.int .i64 0), .sc (.bool false), .sc (.int .u8 0)], kind := .struct [(0, 1, false), (1, 1, false), (2, 1, false), (3, 1, false)] }),
  (9, { size := 1, bytes := 16, row := false, zero := [.sc (.string .empty)], kind := .str }),
  (10, { size := 1, bytes := 16, row := false, zero := [.sc (.string .empty)], kind := .str }),
  (11, { size := 1, bytes := 16, row := false, zero := [.sc (.string .empty)], kind := .str }),
  (12, { size := 1, bytes := 8, row := false, zero := [.sc (.int .u64 0)], kind := .int .u64 }),
  (13, { size := 2, bytes := 24, row := true, zero := [.sc (.string .empty), .sc (.int .u64 0)], kind := .struct [(0, 1, false), (1, 1, false)] }),
  (14, { size := 2, bytes := 24, row := true, zero := [.sc (.string .empty), .sc (.int .u64 0)], kind := .struct [(0, 1, false), (1, 1, false)] }),
  (15, { size := 1, bytes := 8, row := false, zero := [.sc (.pointer none)], kind := .other }),
  (16, { size := 1, bytes := 8, row := false, zero := [.sc (.pointer none)], kind := .other }),
  (17, { size := 1, bytes := 8, row := false, zero := [.sc (.pointer none)], kind := .other }),
  (18, { size := 1, bytes := 8, row := true, zero := [.sc (.pointer none)], kind := .struct [(0, 1, false)] }),
  (19, { size := 1, bytes := 8, row := true, zero := [.sc (.pointer none)], kind := .struct [(0, 1, false)] }),
  (21, { size := 1, bytes := 4, row := false, zero := [.sc (.int .i32 0)], kind := .int .i32 }),
  (22, { size := 1, bytes := 24, row := false, zero := [.nl], kind := .slice 29 }),
  (24, { size := 1, bytes := 24, row := false, zero := [.nl], kind := .slice 31 }),
  (25, { size := 1, bytes := 24, row := false, zero := [.nl], kind := .slice 40 }),
  (28, { size := 4, bytes := 40, row := true, zero := [.sc (.int .i64 0), .sc (.int .i64 0), .sc (.int .i64 0), .sc (.string .empty)], kind := .struct [(0, 1, false), (1, 1, false), (2, 1, false), (3, 1, false)] }),
  (29, { size := 4, bytes := 40, row := true, zero := [.sc (.int .i64 0), .sc (.int .i64 0), .sc (.int .i64 0), .sc (.string .empty)], kind := .struct [(0, 1, false), (1, 1, false), (2, 1, false), (3, 1, false)] }),
  (31, { size := 1, bytes := 24, row := false, zero := [.nl], kind := .slice 5 }),
  (32, { size := 1, bytes := 8, row := false, zero := [.sc (.int .i64 0)], kind := .int .i64 }),
  (39, { size := 3, bytes := 56, row := true, zero := [.sc (.bool false), .nl, .nl], kind := .struct [(0, 1, false), (1, 1, false), (2, 1, false)] }),
  (40, { size := 3, bytes := 56, row := true, zero := [.sc (.bool false), .nl, .nl], kind := .struct [(0, 1, false), (1, 1, false), (2, 1, false)] }),
  (44, { size := 1, bytes := 24, row := false, zero := [.nl], kind := .slice 24 }),
  (48, { size := 1, bytes := 24, row := false, zero := [.nl], kind := .slice 4 }),
  (50, { size := 2, bytes := 48, row := true, zero := [.nl, .nl], kind := .struct [(0, 1, false), (1, 1, false)] }),
  (51, { size := 2, bytes := 48, row := true, zero := [.nl, .nl], kind := .struct [(0, 1, false), (1, 1, false)] }),
  (61, { size := 1, bytes := 24, row := false, zero := [.nl], kind := .slice 51 }),
  (75, { size := 1, bytes := 8, row := false, zero := [.sc (.pointer none)], kind := .other }),
  (76, { size := 1, bytes := 8, row := false, zero := [.sc (.int .u64 0)], kind := .int .u64 }),
  (79, { size := 32, bytes := 32, row := true, zero := List.replicate 32 (.sc (.int .u8 0)), kind := .array 32 5 1 false }),
  (86, { size := 64, bytes := 64, row := true, zero := List.replicate 64 (.sc (.int .u8 0)), kind := .array 64 5 1 false }),
  (88, { size := 1, bytes := 4, row := false, zero := [.sc (.int .u32 0)], kind := .int .u32 }),
  (89, { size := 8, bytes := 32, row := true, zero := [.sc (.int .u32 0), .sc (.int .u32 0), .sc (.int .u32 0), .sc (.int .u32 0), .sc (.int .u32 0), .sc (.int .u32 0), .sc (.int .u32 0), .sc (.int .u32 0)], kind := .array 8 88 1 false }),
  (90, { size := 74, bytes := 112, row := true, zero := [.sc (.int .u32 0), .sc (.int .u32 0), .sc (.int .u32 0), .sc (.int .u32 0), .sc (.int .u32 0), .sc (.int .u32 0), .sc (.int .u32 0), .sc (.int .u32 0), .sc (.int .u8 0), .sc (.int .u8 0), .sc (.int .u8 0), .sc (.int .u8 0), .sc (.int .u8 0), .sc (.int .u8 0), .sc (.int .u8 0), .sc (.int .u8 0), .sc (.int .u8 0), .sc (.int .u8 0), .sc (.int .u8 0), .sc (.int .u8 0), .sc (.int .u8 0), .sc (.int .u8 0), .sc (.int .u8 0), .sc (.int .u8 0), .sc (.int .u8 0), .sc (.int .u8 0), .sc (.int .u8 0), .sc (.int .u8 0), .sc (.int .u8 0), .sc (.int .u8 0), .sc (.int .u8 0), .sc (.int .u8 0), .sc (.int .u8 0), .sc (.int .u8 0), .sc (.int .u8 0), .sc (.int .u8 0), .sc (.int .u8 0), .sc (.int .u8 0), .sc (.int .u8 0), .sc (.int .u8 0), .sc (.int .u8 0), .sc (.int .u8 0), .sc (.int .u8 0), .sc (.int .u8 0), .sc (.int .u8 0), .sc (.int .u8 0), .sc (.int .u8 0), .sc (.int .u8 0), .sc (.int .u8 0), .sc (.int .u8 0), .sc (.int .u8 0), .sc (.int .u8 0), .sc (.int .u8 0), .sc (.int .u8 0), .sc (.int .u8 0), .sc (.int .u8 0), .sc (.int .u8 0), .sc (.int .u8 0), .sc (.int .u8 0), .sc (.int .u8 0), .sc (.int .u8 0), .sc (.int .u8 0), .sc (.int .u8 0), .sc (.int .u8 0), .sc (.int .u8 0), .sc (.int .u8 0), .sc (.int .u8 0), .sc (.int .u8 0), .sc (.int .u8 0), .sc (.int .u8 0), .sc (.int .u8 0), .sc (.int .u8 0), .sc (.int .i64 0), .sc (.int .i64 0)], kind := .struct [(0, 8, true), (8, 64, true), (72, 1, false), (73, 1, false)] }),
  (91, { size := 74, bytes := 112, row := true, zero := [.sc (.int .u32 0), .sc (.int .u32 0), .sc (.int .u32 0), .sc (.int .u32 0), .sc (.int .u32 0), .sc (.int .u32 0), .sc (.int .u32 0), .sc (.int .u32 0), .sc (.int .u8 0), .sc (.int .u8 0), .sc (.int .u8 0), .sc (.int .u8 0), .sc (.int .u8 0), .sc (.int .u8 0), .sc (.int .u8 0), .sc (.int .u8 0), .sc (.int .u8 0), .sc (.int .u8 0), .sc (.int .u8 0), .sc (.int .u8 0), .sc (.int .u8 0), .sc (.int .u8 0), .sc (.int .u8 0), .sc (.int .u8 0), .sc (.int .u8 0), .sc (.int .u8 0), .sc (.int .u8 0), .sc (.int .u8 0), .sc (.int .u8 0), .sc (.int .u8 0), .sc (.int .u8 0), .sc (.int .u8 0), .sc (.int .u8 0), .sc (.int .u8 0), .sc (.int .u8 0), .sc (.int .u8 0), .sc (.int .u8 0), .sc (.int .u8 0), .sc (.int .u8 0), .sc (.int .u8 0), .sc (.int .u8 0), .sc (.int .u8 0), .sc (.int .u8 0), .sc (.int .u8 0), .sc (.int .u8 0), .sc (.int .u8 0), .sc (.int .u8 0), .sc (.int .u8 0), .sc (.int .u8 0), .sc (.int .u8 0), .sc (.int .u8 0), .sc (.int .u8 0), .sc (.int .u8 0), .sc (.int .u8 0), .sc (.int .u8 0), .sc (.int .u8 0), .sc (.int .u8 0), .sc (.int .u8 0), .sc (.int .u8 0), .sc (.int .u8 0), .sc (.int .u8 0), .sc (.int .u8 0), .sc (.int .u8 0), .sc (.int .u8 0), .sc (.int .u8 0), .sc (.int .u8 0), .sc (.int .u8 0), .sc (.int .u8 0), .sc (.int .u8 0), .sc (.int .u8 0), .sc (.int .u8 0), .sc (.int .u8 0), .sc (.int .i64 0), .sc (.int .i64 0)], kind := .struct [(0, 8, true), (8, 64, true), (72, 1, false), (73, 1, false)] }),
  (94, { size := 1, bytes := 8, row := false, zero := [.sc (.int .u64 0)], kind := .int .u64 }),
  (96, { size := 64, bytes := 256, row := true, zero := List.replicate 64 (.sc (.int .u32 0)), kind := .array 64 88 1 false }),
  (99, { size := 4, bytes := 40, row := true, zero := [.sc (.pointer none), .sc (.pointer none), .sc (.pointer none), .sc (.string .empty)], kind := .struct [(0, 1, false), (1, 1, false), (2, 1, false), (3, 1, false)] }),
  (100, { size := 4, bytes := 40, row := true, zero := [.sc (.pointer none), .sc (.pointer none), .sc (.pointer none), .sc (.string .empty)], kind := .struct [(0, 1, false), (1, 1, false), (2, 1, false), (3, 1, false)] }),
  (105, { size := 1, bytes := 1, row := false, zero := [.sc (.int .u8 0)], kind := .int .u8 }),
  (106, { size := 1, bytes := 1, row := false, zero := [.sc (.int .u8 0)], kind := .int .u8 }),
  (108, { size := 1, bytes := 8, row := false, zero := [.sc (.pointer none)], kind := .other }),
  (109, { size := 1, bytes := 4, row := false, zero := [.sc (.int .i32 0)], kind := .int .i32 }),
  (110, { size := 1, bytes := 4, row := false, zero := [.sc (.int .i32 0)], kind := .int .i32 }),
  (111, { size := 11, bytes := 48, row := true, zero := [.sc (.int .u64 0), .sc (.int .u64 0), .sc (.int .u32 0), .sc (.int .u8 0), .sc (.int .u8 0), .sc (.int .u8 0), .sc (.int .u8 0), .sc .nilFunc, .sc (.pointer none), .sc (.int .i32 0), .sc (.int .i32 0)], kind := .struct [(0, 1, false), (1, 1, false), (2, 1, false), (3, 1, false), (4, 1, false), (5, 1, false), (6, 1, false), (7, 1, false), (8, 1, false), (9, 1, false), (10, 1, false)] }),
  (112, { size := 11, bytes := 48, row := true, zero := [.sc (.int .u64 0), .sc (.int .u64 0), .sc (.int .u32 0), .sc (.int .u8 0), .sc (.int .u8 0), .sc (.int .u8 0), .sc (.int .u8 0), .sc .nilFunc, .sc (.pointer none), .sc (.int .i32 0), .sc (.int .i32 0)], kind := .struct [(0, 1, false), (1, 1, false), (2, 1, false), (3, 1, false), (4, 1, false), (5, 1, false), (6, 1, false), (7, 1, false), (8, 1, false), (9, 1, false), (10, 1, false)] }),
  (113, { size := 1, bytes := 8, row := false, zero := [.sc (.pointer none)], kind := .other })]
theorem tlAll : ∀ p ∈ TL, mkTy Tryd.prog p.1 = some p.2 := by
  unfold TL
  refine List.forall_mem_cons.2 ⟨ty2, ?_⟩
  refine List.forall_mem_cons.2 ⟨ty3, ?_⟩
  refine List.forall_mem_cons.2 ⟨ty4, ?_⟩
  refine List.forall_mem_cons.2 ⟨ty5, ?_⟩
  refine List.forall_mem_cons.2 ⟨ty6, ?_⟩
  refine List.forall_mem_cons.2 ⟨ty7, ?_⟩
  refine List.forall_mem_cons.2 ⟨ty8, ?_⟩
  refine List.forall_mem_cons.2 ⟨ty9, ?_⟩
  refine List.forall_mem_cons.2 ⟨ty10, ?_⟩
  refine List.forall_mem_cons.2 ⟨ty11, ?_⟩
  refine List.forall_mem_cons.2 ⟨ty12, ?_⟩
  refine List.forall_mem_cons.2 ⟨ty13, ?_⟩
  refine List.forall_mem_cons.2 ⟨ty14, ?_⟩
  refine List.forall_mem_cons.2 ⟨ty15, ?_⟩
  refine List.forall_mem_cons.2 ⟨ty16, ?_⟩
  refine List.forall_mem_cons.2 ⟨ty17, ?_⟩
  refine List.forall_mem_cons.2 ⟨ty18, ?_⟩
  refine List.forall_mem_cons.2 ⟨ty19, ?_⟩
  refine List.forall_mem_cons.2 ⟨ty21, ?_⟩
  refine List.forall_mem_cons.2 ⟨ty22, ?_⟩
  refine List.forall_mem_cons.2 ⟨ty24, ?_⟩
  refine List.forall_mem_cons.2 ⟨ty25, ?_⟩
  refine List.forall_mem_cons.2 ⟨ty28, ?_⟩
  refine List.forall_mem_cons.2 ⟨ty29, ?_⟩
  refine List.forall_mem_cons.2 ⟨ty31, ?_⟩
  refine List.forall_mem_cons.2 ⟨ty32, ?_⟩
  refine List.forall_mem_cons.2 ⟨ty39, ?_⟩
  refine List.forall_mem_cons.2 ⟨ty40, ?_⟩
  refine List.forall_mem_cons.2 ⟨ty44, ?_⟩
  refine List.forall_mem_cons.2 ⟨ty48, ?_⟩
  refine List.forall_mem_cons.2 ⟨ty50, ?_⟩
  refine List.forall_mem_cons.2 ⟨ty51, ?_⟩
  refine List.forall_mem_cons.2 ⟨ty61, ?_⟩
  refine List.forall_mem_cons.2 ⟨ty75, ?_⟩
  refine List.forall_mem_cons.2 ⟨ty76, ?_⟩
  refine List.forall_mem_cons.2 ⟨ty79, ?_⟩
  refine List.forall_mem_cons.2 ⟨ty86, ?_⟩
  refine List.forall_mem_cons.2 ⟨ty88, ?_⟩
  refine List.forall_mem_cons.2 ⟨ty89, ?_⟩
  refine List.forall_mem_cons.2 ⟨ty90, ?_⟩
  refine List.forall_mem_cons.2 ⟨ty91, ?_⟩
  refine List.forall_mem_cons.2 ⟨ty94, ?_⟩
  refine List.forall_mem_cons.2 ⟨ty96, ?_⟩
  refine List.forall_mem_cons.2 ⟨ty99, ?_⟩
  refine List.forall_mem_cons.2 ⟨ty100, ?_⟩
  refine List.forall_mem_cons.2 ⟨ty105, ?_⟩
  refine List.forall_mem_cons.2 ⟨ty106, ?_⟩
  refine List.forall_mem_cons.2 ⟨ty108, ?_⟩
  refine List.forall_mem_cons.2 ⟨ty109, ?_⟩
  refine List.forall_mem_cons.2 ⟨ty110, ?_⟩
  refine List.forall_mem_cons.2 ⟨ty111, ?_⟩
  refine List.forall_mem_cons.2 ⟨ty112, ?_⟩
  refine List.forall_mem_cons.2 ⟨ty113, ?_⟩
  exact List.forall_mem_nil _
theorem tyOk {T : TypeId} {t : TyI} (h : look T TL = some t) : mkTy Tryd.prog T = some t := tlAll (T, t) (look_mem h)
theorem tg28 : tagsOf Tryd.prog 28 = some [.i, .i, .i, .s] := by kernel_rfl
theorem tg29 : tagsOf Tryd.prog 29 = some [.i, .i, .i, .s] := by kernel_rfl
def TG : List (Nat × List Tag) := [(28, [.i, .i, .i, .s]), (29, [.i, .i, .i, .s])]
theorem tgAll : ∀ p ∈ TG, tagsOf Tryd.prog p.1 = some p.2 := by
  unfold TG
  refine List.forall_mem_cons.2 ⟨tg28, ?_⟩
  refine List.forall_mem_cons.2 ⟨tg29, ?_⟩
  exact List.forall_mem_nil _
theorem tgOk {T : TypeId} {t : List Tag} (h : look T TG = some t) : tagsOf Tryd.prog T = some t := tgAll (T, t) (look_mem h)
theorem mixed : Tryd.prog.follows .mixedOrders = true := by kernel_rfl
end Go.Proofs.YtagbajdjpfafoaaDoor
