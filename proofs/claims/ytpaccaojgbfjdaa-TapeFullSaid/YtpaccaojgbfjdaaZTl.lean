/-
  The table of the types that the walks meet. No condition.
-/
import Derived.Test.YtpaccaojgbfjdaaZB
import Derived.Test.YtpaccaojgbfjdaaProg
namespace Go.Proofs.Ytpaccaojgbfjdaa
open Go.RowKit
theorem ty2 : mkTy Try.prog 2 = some { size := 1, bytes := 8, row := false, zero := [.sc (.int .i64 0)], kind := .int .i64 } := by kernel_rfl
theorem ty3 : mkTy Try.prog 3 = some { size := 1, bytes := 8, row := false, zero := [.sc (.int .i64 0)], kind := .int .i64 } := by kernel_rfl
theorem ty4 : mkTy Try.prog 4 = some { size := 1, bytes := 1, row := false, zero := [.sc (.bool false)], kind := .bool } := by kernel_rfl
theorem ty5 : mkTy Try.prog 5 = some { size := 1, bytes := 1, row := false, zero := [.sc (.int .u8 0)], kind := .int .u8 } := by kernel_rfl
theorem ty6 : mkTy Try.prog 6 = some { size := 1, bytes := 1, row := false, zero := [.sc (.int .u8 0)], kind := .int .u8 } := by kernel_rfl
theorem ty7 : mkTy Try.prog 7 = some { size := 4, bytes := 24, row := true, zero := [.sc (.int .i64 0), .sc (.int .i64 0), .sc (.bool false), .sc (.int .u8 0)], kind := .struct [(0, 1, false), (1, 1, false), (2, 1, false), (3, 1, false)] } := by kernel_rfl
theorem ty8 : mkTy Try.prog 8 = some { size := 4, bytes := 24, row := true, zero := [.sc (.int .i64 0), .sc (.int .i64 0), .sc (.bool false), .sc (.int .u8 0)], kind := .struct [(0, 1, false), (1, 1, false), (2, 1, false), (3, 1, false)] } := by kernel_rfl
theorem ty9 : mkTy Try.prog 9 = some { size := 1, bytes := 16, row := false, zero := [.sc (.string .empty)], kind := .str } := by kernel_rfl
theorem ty10 : mkTy Try.prog 10 = some { size := 1, bytes := 16, row := false, zero := [.sc (.string .empty)], kind := .str } := by kernel_rfl
theorem ty11 : mkTy Try.prog 11 = some { size := 1, bytes := 16, row := false, zero := [.sc (.string .empty)], kind := .str } := by kernel_rfl
theorem ty12 : mkTy Try.prog 12 = some { size := 1, bytes := 8, row := false, zero := [.sc (.int .u64 0)], kind := .int .u64 } := by kernel_rfl
theorem ty13 : mkTy Try.prog 13 = some { size := 2, bytes := 24, row := true, zero := [.sc (.string .empty), .sc (.int .u64 0)], kind := .struct [(0, 1, false), (1, 1, false)] } := by kernel_rfl
theorem ty14 : mkTy Try.prog 14 = some { size := 2, bytes := 24, row := true, zero := [.sc (.string .empty), .sc (.int .u64 0)], kind := .struct [(0, 1, false), (1, 1, false)] } := by kernel_rfl
theorem ty15 : mkTy Try.prog 15 = some { size := 1, bytes := 8, row := false, zero := [.sc (.pointer none)], kind := .other } := by kernel_rfl
theorem ty16 : mkTy Try.prog 16 = some { size := 1, bytes := 8, row := false, zero := [.sc (.pointer none)], kind := .other } := by kernel_rfl
theorem ty17 : mkTy Try.prog 17 = some { size := 1, bytes := 8, row := false, zero := [.sc (.pointer none)], kind := .other } := by kernel_rfl
theorem ty18 : mkTy Try.prog 18 = some { size := 1, bytes := 8, row := true, zero := [.sc (.pointer none)], kind := .struct [(0, 1, false)] } := by kernel_rfl
theorem ty19 : mkTy Try.prog 19 = some { size := 1, bytes := 8, row := true, zero := [.sc (.pointer none)], kind := .struct [(0, 1, false)] } := by kernel_rfl
theorem ty21 : mkTy Try.prog 21 = some { size := 1, bytes := 4, row := false, zero := [.sc (.int .i32 0)], kind := .int .i32 } := by kernel_rfl
theorem ty23 : mkTy Try.prog 23 = some { size := 1, bytes := 24, row := false, zero := [.nl], kind := .slice 100 } := by kernel_rfl
theorem ty24 : mkTy Try.prog 24 = some { size := 1, bytes := 24, row := false, zero := [.nl], kind := .slice 106 } := by kernel_rfl
theorem ty25 : mkTy Try.prog 25 = some { size := 2, bytes := 48, row := true, zero := [.nl, .nl], kind := .struct [(0, 1, false), (1, 1, false)] } := by kernel_rfl
theorem ty26 : mkTy Try.prog 26 = some { size := 2, bytes := 48, row := true, zero := [.nl, .nl], kind := .struct [(0, 1, false), (1, 1, false)] } := by kernel_rfl
theorem ty27 : mkTy Try.prog 27 = some { size := 1, bytes := 8, row := false, zero := [.sc (.int .i64 0)], kind := .int .i64 } := by kernel_rfl
theorem ty32 : mkTy Try.prog 32 = some { size := 1, bytes := 24, row := false, zero := [.nl], kind := .slice 5 } := by kernel_rfl
theorem ty33 : mkTy Try.prog 33 = some { size := 1, bytes := 24, row := false, zero := [.nl], kind := .slice 32 } := by kernel_rfl
theorem ty37 : mkTy Try.prog 37 = some { size := 1, bytes := 24, row := false, zero := [.nl], kind := .slice 65 } := by kernel_rfl
theorem ty44 : mkTy Try.prog 44 = some { size := 1, bytes := 24, row := false, zero := [.nl], kind := .slice 3 } := by kernel_rfl
theorem ty45 : mkTy Try.prog 45 = some { size := 1, bytes := 24, row := false, zero := [.nl], kind := .slice 58 } := by kernel_rfl
theorem ty46 : mkTy Try.prog 46 = some { size := 1, bytes := 24, row := true, zero := [.nl], kind := .struct [(0, 1, false)] } := by kernel_rfl
theorem ty47 : mkTy Try.prog 47 = some { size := 1, bytes := 24, row := true, zero := [.nl], kind := .struct [(0, 1, false)] } := by kernel_rfl
theorem ty53 : mkTy Try.prog 53 = some { size := 1, bytes := 24, row := false, zero := [.nl], kind := .slice 67 } := by kernel_rfl
theorem ty56 : mkTy Try.prog 56 = some { size := 1, bytes := 24, row := false, zero := [.nl], kind := .slice 9 } := by kernel_rfl
theorem ty57 : mkTy Try.prog 57 = some { size := 3, bytes := 72, row := true, zero := [.nl, .nl, .nl], kind := .struct [(0, 1, false), (1, 1, false), (2, 1, false)] } := by kernel_rfl
theorem ty58 : mkTy Try.prog 58 = some { size := 3, bytes := 72, row := true, zero := [.nl, .nl, .nl], kind := .struct [(0, 1, false), (1, 1, false), (2, 1, false)] } := by kernel_rfl
theorem ty64 : mkTy Try.prog 64 = some { size := 4, bytes := 40, row := true, zero := [.sc (.int .i64 0), .sc (.int .i64 0), .sc (.int .i64 0), .sc (.string .empty)], kind := .struct [(0, 1, false), (1, 1, false), (2, 1, false), (3, 1, false)] } := by kernel_rfl
theorem ty65 : mkTy Try.prog 65 = some { size := 4, bytes := 40, row := true, zero := [.sc (.int .i64 0), .sc (.int .i64 0), .sc (.int .i64 0), .sc (.string .empty)], kind := .struct [(0, 1, false), (1, 1, false), (2, 1, false), (3, 1, false)] } := by kernel_rfl
theorem ty66 : mkTy Try.prog 66 = some { size := 2, bytes := 24, row := true, zero := [.sc (.string .empty), .sc (.int .i64 0)], kind := .struct [(0, 1, false), (1, 1, false)] } := by kernel_rfl
theorem ty67 : mkTy Try.prog 67 = some { size := 2, bytes := 24, row := true, zero := [.sc (.string .empty), .sc (.int .i64 0)], kind := .struct [(0, 1, false), (1, 1, false)] } := by kernel_rfl
theorem ty74 : mkTy Try.prog 74 = some { size := 1, bytes := 8, row := false, zero := [.sc (.pointer none)], kind := .other } := by kernel_rfl
theorem ty75 : mkTy Try.prog 75 = some { size := 3, bytes := 56, row := true, zero := [.nl, .nl, .sc (.int .i64 0)], kind := .struct [(0, 2, true), (2, 1, false)] } := by kernel_rfl
theorem ty76 : mkTy Try.prog 76 = some { size := 3, bytes := 56, row := true, zero := [.nl, .nl, .sc (.int .i64 0)], kind := .struct [(0, 2, true), (2, 1, false)] } := by kernel_rfl
theorem ty80 : mkTy Try.prog 80 = some { size := 1, bytes := 8, row := false, zero := [.sc (.int .u64 0)], kind := .int .u64 } := by kernel_rfl
theorem ty82 : mkTy Try.prog 82 = some { size := 1, bytes := 4, row := false, zero := [.sc (.int .u32 0)], kind := .int .u32 } := by kernel_rfl
theorem ty88 : mkTy Try.prog 88 = some { size := 1, bytes := 8, row := false, zero := [.sc (.pointer none)], kind := .other } := by kernel_rfl
theorem ty95 : mkTy Try.prog 95 = some { size := 1, bytes := 24, row := false, zero := [.nl], kind := .slice 88 } := by kernel_rfl
theorem ty96 : mkTy Try.prog 96 = some { size := 3, bytes := 72, row := true, zero := [.nl, .nl, .nl], kind := .struct [(0, 1, false), (1, 1, false), (2, 1, false)] } := by kernel_rfl
theorem ty97 : mkTy Try.prog 97 = some { size := 3, bytes := 72, row := true, zero := [.nl, .nl, .nl], kind := .struct [(0, 1, false), (1, 1, false), (2, 1, false)] } := by kernel_rfl
theorem ty100 : mkTy Try.prog 100 = some { size := 32, bytes := 32, row := true, zero := List.replicate 32 (.sc (.int .u8 0)), kind := .array 32 5 1 false } := by kernel_rfl
theorem ty105 : mkTy Try.prog 105 = some { size := 33, bytes := 40, row := true, zero := [.sc (.int .i64 0), .sc (.int .u8 0), .sc (.int .u8 0), .sc (.int .u8 0), .sc (.int .u8 0), .sc (.int .u8 0), .sc (.int .u8 0), .sc (.int .u8 0), .sc (.int .u8 0), .sc (.int .u8 0), .sc (.int .u8 0), .sc (.int .u8 0), .sc (.int .u8 0), .sc (.int .u8 0), .sc (.int .u8 0), .sc (.int .u8 0), .sc (.int .u8 0), .sc (.int .u8 0), .sc (.int .u8 0), .sc (.int .u8 0), .sc (.int .u8 0), .sc (.int .u8 0), .sc (.int .u8 0), .sc (.int .u8 0), .sc (.int .u8 0), .sc (.int .u8 0), .sc (.int .u8 0), .sc (.int .u8 0), .sc (.int .u8 0), .sc (.int .u8 0), .sc (.int .u8 0), .sc (.int .u8 0), .sc (.int .u8 0)], kind := .struct [(0, 1, false), (1, 32, true)] } := by kernel_rfl
theorem ty106 : mkTy Try.prog 106 = some { size := 33, bytes := 40, row := true, zero := [.sc (.int .i64 0), .sc (.int .u8 0), .sc (.int .u8 0), .sc (.int .u8 0), .sc (.int .u8 0), .sc (.int .u8 0), .sc (.int .u8 0), .sc (.int .u8 0), .sc (.int .u8 0), .sc (.int .u8 0), .sc (.int .u8 0), .sc (.int .u8 0), .sc (.int .u8 0), .sc (.int .u8 0), .sc (.int .u8 0), .sc (.int .u8 0), .sc (.int .u8 0), .sc (.int .u8 0), .sc (.int .u8 0), .sc (.int .u8 0), .sc (.int .u8 0), .sc (.int .u8 0), .sc (.int .u8 0), .sc (.int .u8 0), .sc (.int .u8 0), .sc (.int .u8 0), .sc (.int .u8 0), .sc (.int .u8 0), .sc (.int .u8 0), .sc (.int .u8 0), .sc (.int .u8 0), .sc (.int .u8 0), .sc (.int .u8 0)], kind := .struct [(0, 1, false), (1, 32, true)] } := by kernel_rfl
theorem ty109 : mkTy Try.prog 109 = some { size := 1, bytes := 8, row := false, zero := [.sc (.pointer none)], kind := .other } := by kernel_rfl
theorem ty119 : mkTy Try.prog 119 = some { size := 4, bytes := 40, row := true, zero := [.sc (.pointer none), .sc (.pointer none), .sc (.pointer none), .sc (.string .empty)], kind := .struct [(0, 1, false), (1, 1, false), (2, 1, false), (3, 1, false)] } := by kernel_rfl
theorem ty120 : mkTy Try.prog 120 = some { size := 4, bytes := 40, row := true, zero := [.sc (.pointer none), .sc (.pointer none), .sc (.pointer none), .sc (.string .empty)], kind := .struct [(0, 1, false), (1, 1, false), (2, 1, false), (3, 1, false)] } := by kernel_rfl
theorem ty122 : mkTy Try.prog 122 = some { size := 0, bytes := 0, row := true, zero := [], kind := .struct [(0, 0, true)] } := by kernel_rfl
theorem ty123 : mkTy Try.prog 123 = some { size := 0, bytes := 0, row := true, zero := [], kind := .struct [(0, 0, true)] } := by kernel_rfl
theorem ty125 : mkTy Try.prog 125 = some { size := 1, bytes := 1, row := false, zero := [.sc (.int .u8 0)], kind := .int .u8 } := by kernel_rfl
theorem ty126 : mkTy Try.prog 126 = some { size := 1, bytes := 1, row := false, zero := [.sc (.int .u8 0)], kind := .int .u8 } := by kernel_rfl
theorem ty128 : mkTy Try.prog 128 = some { size := 1, bytes := 8, row := false, zero := [.sc (.pointer none)], kind := .other } := by kernel_rfl
theorem ty129 : mkTy Try.prog 129 = some { size := 1, bytes := 4, row := false, zero := [.sc (.int .i32 0)], kind := .int .i32 } := by kernel_rfl
theorem ty130 : mkTy Try.prog 130 = some { size := 1, bytes := 4, row := false, zero := [.sc (.int .i32 0)], kind := .int .i32 } := by kernel_rfl
theorem ty131 : mkTy Try.prog 131 = some { size := 11, bytes := 48, row := true, zero := [.sc (.int .u64 0), .sc (.int .u64 0), .sc (.int .u32 0), .sc (.int .u8 0), .sc (.int .u8 0), .sc (.int .u8 0), .sc (.int .u8 0), .sc .nilFunc, .sc (.pointer none), .sc (.int .i32 0), .sc (.int .i32 0)], kind := .struct [(0, 1, false), (1, 1, false), (2, 1, false), (3, 1, false), (4, 1, false), (5, 1, false), (6, 1, false), (7, 1, false), (8, 1, false), (9, 1, false), (10, 1, false)] } := by kernel_rfl
theorem ty132 : mkTy Try.prog 132 = some { size := 11, bytes := 48, row := true, zero := [.sc (.int .u64 0), .sc (.int .u64 0), .sc (.int .u32 0), .sc (.int .u8 0), .sc (.int .u8 0), .sc (.int .u8 0), .sc (.int .u8 0), .sc .nilFunc, .sc (.pointer none), .sc (.int .i32 0), .sc (.int .i32 0)], kind := .struct [(0, 1, false), (1, 1, false), (2, 1, false), (3, 1, false), (4, 1, false), (5, 1, false), (6, 1, false), (7, 1, false), (8, 1, false), (9, 1, false), (10, 1, false)] } := by kernel_rfl
theorem ty133 : mkTy Try.prog 133 = some { size := 1, bytes := 8, row := false, zero := [.sc (.pointer none)], kind := .other } := by kernel_rfl
def TL : List (Nat × TyI) := [(2, { size := 1, bytes := 8, row := false, zero := [.sc (.int .i64 0)], kind := .int .i64 }),
  (3, { size := 1, bytes := 8, row := false, zero := [.sc (.int .i64 0)], kind := .int .i64 }),
  (4, { size := 1, bytes := 1, row := false, zero := [.sc (.bool false)], kind := .bool }),
  (5, { size := 1, bytes := 1, row := false, zero := [.sc (.int .u8 0)], kind := .int .u8 }),
  (6, { size := 1, bytes := 1, row := false, zero := [.sc (.int .u8 0)], kind := .int .u8 }),
  (7, { size := 4, bytes := 24, row := true, zero := [.sc (.int .i64 0), .sc (.int .i64 0), .sc (.bool false), .sc (.int .u8 0)], kind := .struct [(0, 1, false), (1, 1, false), (2, 1, false), (3, 1, false)] }),
  (8, { size := 4, bytes := 24, row := true, zero := [.sc (.int .i64 0), .sc (.int .i64 0), .sc (.bool false), .sc (.int .u8 0)], kind := .struct [(0, 1, false), (1, 1, false), (2, 1, false), (3, 1, false)] }),
  (9, { size := 1, bytes := 16, row := false, zero := [.sc (.string .empty)], kind := .str }),
  (10, { size := 1, bytes := 16, row := false, zero := [.sc (.string .empty)], kind := .str }),
  (11, { size := 1, bytes := 16, row := false, zero := [.sc (.string .empty)], kind := .str }),
  (12, { size := 1, bytes := 8, row := false, zero := [.sc (.int .u64 0)], kind := .int .u64 }),
  (13, { size := 2, bytes := 24, row := true, zero := [.sc (.string .empty), .sc (.int .u64 0)], kind := .struct [(0, 1, false), (1, 1, false)] }),
  (14, { size := 2, bytes := 24, row := true, zero := [.sc (.string .empty), .sc (.int .u64 0)], kind := .struct [(0, 1, false), (1, 1, false)] }),
  (15, { size := 1, bytes := 8, row := false, zero := [.sc (.pointer none)], kind := .other }),
  (16, { size := 1, bytes := 8, row := false, zero := [.sc (.pointer none)], kind := .other }),
  (17, { size := 1, bytes := 8, row := false, zero := [.sc (.pointer none)], kind := .other }),
  (18, { size := 1, bytes := 8, row := true, zero := [.sc (.pointer none)], kind := .struct [(0, 1, false)] }),
  (19, { size := 1, bytes := 8, row := true, zero := [.sc (.pointer none)], kind := .struct [(0, 1, false)] }),
  (21, { size := 1, bytes := 4, row := false, zero := [.sc (.int .i32 0)], kind := .int .i32 }),
  (23, { size := 1, bytes := 24, row := false, zero := [.nl], kind := .slice 100 }),
  (24, { size := 1, bytes := 24, row := false, zero := [.nl], kind := .slice 106 }),
  (25, { size := 2, bytes := 48, row := true, zero := [.nl, .nl], kind := .struct [(0, 1, false), (1, 1, false)] }),
  (26, { size := 2, bytes := 48, row := true, zero := [.nl, .nl], kind := .struct [(0, 1, false), (1, 1, false)] }),
  (27, { size := 1, bytes := 8, row := false, zero := [.sc (.int .i64 0)], kind := .int .i64 }),
  (32, { size := 1, bytes := 24, row := false, zero := [.nl], kind := .slice 5 }),
  (33, { size := 1, bytes := 24, row := false, zero := [.nl], kind := .slice 32 }),
  (37, { size := 1, bytes := 24, row := false, zero := [.nl], kind := .slice 65 }),
  (44, { size := 1, bytes := 24, row := false, zero := [.nl], kind := .slice 3 }),
  (45, { size := 1, bytes := 24, row := false, zero := [.nl], kind := .slice 58 }),
  (46, { size := 1, bytes := 24, row := true, zero := [.nl], kind := .struct [(0, 1, false)] }),
  (47, { size := 1, bytes := 24, row := true, zero := [.nl], kind := .struct [(0, 1, false)] }),
  (53, { size := 1, bytes := 24, row := false, zero := [.nl], kind := .slice 67 }),
  (56, { size := 1, bytes := 24, row := false, zero := [.nl], kind := .slice 9 }),
  (57, { size := 3, bytes := 72, row := true, zero := [.nl, .nl, .nl], kind := .struct [(0, 1, false), (1, 1, false), (2, 1, false)] }),
  (58, { size := 3, bytes := 72, row := true, zero := [.nl, .nl, .nl], kind := .struct [(0, 1, false), (1, 1, false), (2, 1, false)] }),
  (64, { size := 4, bytes := 40, row := true, zero := [.sc (.int .i64 0), .sc (.int .i64 0), .sc (.int .i64 0), .sc (.string .empty)], kind := .struct [(0, 1, false), (1, 1, false), (2, 1, false), (3, 1, false)] }),
  (65, { size := 4, bytes := 40, row := true, zero := [.sc (.int .i64 0), .sc (.int .i64 0), .sc (.int .i64 0), .sc (.string .empty)], kind := .struct [(0, 1, false), (1, 1, false), (2, 1, false), (3, 1, false)] }),
  (66, { size := 2, bytes := 24, row := true, zero := [.sc (.string .empty), .sc (.int .i64 0)], kind := .struct [(0, 1, false), (1, 1, false)] }),
  (67, { size := 2, bytes := 24, row := true, zero := [.sc (.string .empty), .sc (.int .i64 0)], kind := .struct [(0, 1, false), (1, 1, false)] }),
  (74, { size := 1, bytes := 8, row := false, zero := [.sc (.pointer none)], kind := .other }),
  (75, { size := 3, bytes := 56, row := true, zero := [.nl, .nl, .sc (.int .i64 0)], kind := .struct [(0, 2, true), (2, 1, false)] }),
  (76, { size := 3, bytes := 56, row := true, zero := [.nl, .nl, .sc (.int .i64 0)], kind := .struct [(0, 2, true), (2, 1, false)] }),
  (80, { size := 1, bytes := 8, row := false, zero := [.sc (.int .u64 0)], kind := .int .u64 }),
  (82, { size := 1, bytes := 4, row := false, zero := [.sc (.int .u32 0)], kind := .int .u32 }),
  (88, { size := 1, bytes := 8, row := false, zero := [.sc (.pointer none)], kind := .other }),
  (95, { size := 1, bytes := 24, row := false, zero := [.nl], kind := .slice 88 }),
  (96, { size := 3, bytes := 72, row := true, zero := [.nl, .nl, .nl], kind := .struct [(0, 1, false), (1, 1, false), (2, 1, false)] }),
  (97, { size := 3, bytes := 72, row := true, zero := [.nl, .nl, .nl], kind := .struct [(0, 1, false), (1, 1, false), (2, 1, false)] }),
  (100, { size := 32, bytes := 32, row := true, zero := List.replicate 32 (.sc (.int .u8 0)), kind := .array 32 5 1 false }),
  (105, { size := 33, bytes := 40, row := true, zero := [.sc (.int .i64 0), .sc (.int .u8 0), .sc (.int .u8 0), .sc (.int .u8 0), .sc (.int .u8 0), .sc (.int .u8 0), .sc (.int .u8 0), .sc (.int .u8 0), .sc (.int .u8 0), .sc (.int .u8 0), .sc (.int .u8 0), .sc (.int .u8 0), .sc (.int .u8 0), .sc (.int .u8 0), .sc (.int .u8 0), .sc (.int .u8 0), .sc (.int .u8 0), .sc (.int .u8 0), .sc (.int .u8 0), .sc (.int .u8 0), .sc (.int .u8 0), .sc (.int .u8 0), .sc (.int .u8 0), .sc (.int .u8 0), .sc (.int .u8 0), .sc (.int .u8 0), .sc (.int .u8 0), .sc (.int .u8 0), .sc (.int .u8 0), .sc (.int .u8 0), .sc (.int .u8 0), .sc (.int .u8 0), .sc (.int .u8 0)], kind := .struct [(0, 1, false), (1, 32, true)] }),
  (106, { size := 33, bytes := 40, row := true, zero := [.sc (.int .i64 0), .sc (.int .u8 0), .sc (.int .u8 0), .sc (.int .u8 0), .sc (.int .u8 0), .sc (.int .u8 0), .sc (.int .u8 0), .sc (.int .u8 0), .sc (.int .u8 0), .sc (.int .u8 0), .sc (.int .u8 0), .sc (.int .u8 0), .sc (.int .u8 0), .sc (.int .u8 0), .sc (.int .u8 0), .sc (.int .u8 0), .sc (.int .u8 0), .sc (.int .u8 0), .sc (.int .u8 0), .sc (.int .u8 0), .sc (.int .u8 0), .sc (.int .u8 0), .sc (.int .u8 0), .sc (.int .u8 0), .sc (.int .u8 0), .sc (.int .u8 0), .sc (.int .u8 0), .sc (.int .u8 0), .sc (.int .u8 0), .sc (.int .u8 0), .sc (.int .u8 0), .sc (.int .u8 0), .sc (.int .u8 0)], kind := .struct [(0, 1, false), (1, 32, true)] }),
  (109, { size := 1, bytes := 8, row := false, zero := [.sc (.pointer none)], kind := .other }),
  (119, { size := 4, bytes := 40, row := true, zero := [.sc (.pointer none), .sc (.pointer none), .sc (.pointer none), .sc (.string .empty)], kind := .struct [(0, 1, false), (1, 1, false), (2, 1, false), (3, 1, false)] }),
  (120, { size := 4, bytes := 40, row := true, zero := [.sc (.pointer none), .sc (.pointer none), .sc (.pointer none), .sc (.string .empty)], kind := .struct [(0, 1, false), (1, 1, false), (2, 1, false), (3, 1, false)] }),
  (122, { size := 0, bytes := 0, row := true, zero := [], kind := .struct [(0, 0, true)] }),
  (123, { size := 0, bytes := 0, row := true, zero := [], kind := .struct [(0, 0, true)] }),
  (125, { size := 1, bytes := 1, row := false, zero := [.sc (.int .u8 0)], kind := .int .u8 }),
  (126, { size := 1, bytes := 1, row := false, zero := [.sc (.int .u8 0)], kind := .int .u8 }),
  (128, { size := 1, bytes := 8, row := false, zero := [.sc (.pointer none)], kind := .other }),
  (129, { size := 1, bytes := 4, row := false, zero := [.sc (.int .i32 0)], kind := .int .i32 }),
  (130, { size := 1, bytes := 4, row := false, zero := [.sc (.int .i32 0)], kind := .int .i32 }),
  (131, { size := 11, bytes := 48, row := true, zero := [.sc (.int .u64 0), .sc (.int .u64 0), .sc (.int .u32 0), .sc (.int .u8 0), .sc (.int .u8 0), .sc (.int .u8 0), .sc (.int .u8 0), .sc .nilFunc, .sc (.pointer none), .sc (.int .i32 0), .sc (.int .i32 0)], kind := .struct [(0, 1, false), (1, 1, false), (2, 1, false), (3, 1, false), (4, 1, false), (5, 1, false), (6, 1, false), (7, 1, false), (8, 1, false), (9, 1, false), (10, 1, false)] }),
  (132, { size := 11, bytes := 48, row := true, zero := [.sc (.int .u64 0), .sc (.int .u64 0), .sc (.int .u32 0), .sc (.int .u8 0), .sc (.int .u8 0), .sc (.int .u8 0), .sc (.int .u8 0), .sc .nilFunc, .sc (.pointer none), .sc (.int .i32 0), .sc (.int .i32 0)], kind := .struct [(0, 1, false), (1, 1, false), (2, 1, false), (3, 1, false), (4, 1, false), (5, 1, false), (6, 1, false), (7, 1, false), (8, 1, false), (9, 1, false), (10, 1, false)] }),
  (133, { size := 1, bytes := 8, row := false, zero := [.sc (.pointer none)], kind := .other })]
theorem tlAll : ∀ p ∈ TL, mkTy Try.prog p.1 = some p.2 := by
  unfold TL
  refine List.forall_mem_cons.2 ⟨ty2, ?_⟩
  refine List.forall_mem_cons.2 ⟨ty3, ?_⟩
  refine List.forall_mem_cons.2 ⟨ty4, ?_⟩
  refine List.forall_mem_cons.2 ⟨ty5, ?_⟩
  refine List.forall_mem_cons.2 ⟨ty6, ?_⟩
  refine List.forall_mem_cons.2 ⟨ty7, ?_⟩
  refine List.forall_mem_cons.2 ⟨ty8, ?_⟩
  refine List.forall_mem_cons.2 ⟨ty9, ?_⟩
  refine List.forall_mem_cons.2 ⟨ty10, ?_⟩
  refine List.forall_mem_cons.2 ⟨ty11, ?_⟩
  refine List.forall_mem_cons.2 ⟨ty12, ?_⟩
  refine List.forall_mem_cons.2 ⟨ty13, ?_⟩
  refine List.forall_mem_cons.2 ⟨ty14, ?_⟩
  refine List.forall_mem_cons.2 ⟨ty15, ?_⟩
  refine List.forall_mem_cons.2 ⟨ty16, ?_⟩
  refine List.forall_mem_cons.2 ⟨ty17, ?_⟩
  refine List.forall_mem_cons.2 ⟨ty18, ?_⟩
  refine List.forall_mem_cons.2 ⟨ty19, ?_⟩
  refine List.forall_mem_cons.2 ⟨ty21, ?_⟩
  refine List.forall_mem_cons.2 ⟨ty23, ?_⟩
  refine List.forall_mem_cons.2 ⟨ty24, ?_⟩
  refine List.forall_mem_cons.2 ⟨ty25, ?_⟩
  refine List.forall_mem_cons.2 ⟨ty26, ?_⟩
  refine List.forall_mem_cons.2 ⟨ty27, ?_⟩
  refine List.forall_mem_cons.2 ⟨ty32, ?_⟩
  refine List.forall_mem_cons.2 ⟨ty33, ?_⟩
  refine List.forall_mem_cons.2 ⟨ty37, ?_⟩
  refine List.forall_mem_cons.2 ⟨ty44, ?_⟩
  refine List.forall_mem_cons.2 ⟨ty45, ?_⟩
  refine List.forall_mem_cons.2 ⟨ty46, ?_⟩
  refine List.forall_mem_cons.2 ⟨ty47, ?_⟩
  refine List.forall_mem_cons.2 ⟨ty53, ?_⟩
  refine List.forall_mem_cons.2 ⟨ty56, ?_⟩
  refine List.forall_mem_cons.2 ⟨ty57, ?_⟩
  refine List.forall_mem_cons.2 ⟨ty58, ?_⟩
  refine List.forall_mem_cons.2 ⟨ty64, ?_⟩
  refine List.forall_mem_cons.2 ⟨ty65, ?_⟩
  refine List.forall_mem_cons.2 ⟨ty66, ?_⟩
  refine List.forall_mem_cons.2 ⟨ty67, ?_⟩
  refine List.forall_mem_cons.2 ⟨ty74, ?_⟩
  refine List.forall_mem_cons.2 ⟨ty75, ?_⟩
  refine List.forall_mem_cons.2 ⟨ty76, ?_⟩
  refine List.forall_mem_cons.2 ⟨ty80, ?_⟩
  refine List.forall_mem_cons.2 ⟨ty82, ?_⟩
  refine List.forall_mem_cons.2 ⟨ty88, ?_⟩
  refine List.forall_mem_cons.2 ⟨ty95, ?_⟩
  refine List.forall_mem_cons.2 ⟨ty96, ?_⟩
  refine List.forall_mem_cons.2 ⟨ty97, ?_⟩
  refine List.forall_mem_cons.2 ⟨ty100, ?_⟩
  refine List.forall_mem_cons.2 ⟨ty105, ?_⟩
  refine List.forall_mem_cons.2 ⟨ty106, ?_⟩
  refine List.forall_mem_cons.2 ⟨ty109, ?_⟩
  refine List.forall_mem_cons.2 ⟨ty119, ?_⟩
  refine List.forall_mem_cons.2 ⟨ty120, ?_⟩
  refine List.forall_mem_cons.2 ⟨ty122, ?_⟩
  refine List.forall_mem_cons.2 ⟨ty123, ?_⟩
  refine List.forall_mem_cons.2 ⟨ty125, ?_⟩
  refine List.forall_mem_cons.2 ⟨ty126, ?_⟩
  refine List.forall_mem_cons.2 ⟨ty128, ?_⟩
  refine List.forall_mem_cons.2 ⟨ty129, ?_⟩
  refine List.forall_mem_cons.2 ⟨ty130, ?_⟩
  refine List.forall_mem_cons.2 ⟨ty131, ?_⟩
  refine List.forall_mem_cons.2 ⟨ty132, ?_⟩
  refine List.forall_mem_cons.2 ⟨ty133, ?_⟩
  exact List.forall_mem_nil _
theorem tyOk {T : TypeId} {t : TyI} (h : look T TL = some t) : mkTy Try.prog T = some t := tlAll (T, t) (look_mem h)
theorem tg64 : tagsOf Try.prog 64 = some [.i, .i, .i, .s] := by kernel_rfl
theorem tg65 : tagsOf Try.prog 65 = some [.i, .i, .i, .s] := by kernel_rfl
theorem tg66 : tagsOf Try.prog 66 = some [.s, .i] := by kernel_rfl
theorem tg67 : tagsOf Try.prog 67 = some [.s, .i] := by kernel_rfl
def TG : List (Nat × List Tag) := [(64, [.i, .i, .i, .s]), (65, [.i, .i, .i, .s]), (66, [.s, .i]), (67, [.s, .i])]
theorem tgAll : ∀ p ∈ TG, tagsOf Try.prog p.1 = some p.2 := by
  unfold TG
  refine List.forall_mem_cons.2 ⟨tg64, ?_⟩
  refine List.forall_mem_cons.2 ⟨tg65, ?_⟩
  refine List.forall_mem_cons.2 ⟨tg66, ?_⟩
  refine List.forall_mem_cons.2 ⟨tg67, ?_⟩
  exact List.forall_mem_nil _
theorem tgOk {T : TypeId} {t : List Tag} (h : look T TG = some t) : tagsOf Try.prog T = some t := tgAll (T, t) (look_mem h)
theorem mixed : Try.prog.follows .mixedOrders = true := by kernel_rfl
end Go.Proofs.Ytpaccaojgbfjdaa

