/-
  The table of the types that the walks meet. No condition.
-/
import Derived.Test.YtpaccaojgbfjdaaDoorZB
import Derived.Test.YtpaccaojgbfjdaaDoorProg
namespace Go.Proofs.YtpaccaojgbfjdaaDoor
open Go.RowKit
theorem ty2 : mkTy Tryd.prog 2 = some { size := 1, bytes := 8, row := false, zero := [.sc (.int .i64 0)], kind := .int .i64 } := by kernel_rfl
theorem ty3 : mkTy Tryd.prog 3 = some { size := 1, bytes := 8, row := false, zero := [.sc (.int .i64 0)], kind := .int .i64 } := by kernel_rfl
theorem ty4 : mkTy Tryd.prog 4 = some { size := 1, bytes := 1, row := false, zero := [.sc (.bool false)], kind := .bool } := by kernel_rfl
theorem ty5 : mkTy Tryd.prog 5 = some { size := 1, bytes := 1, row := false, zero := [.sc (.int .u8 0)], kind := .int .u8 } := by kernel_rfl
theorem ty6 : mkTy Tryd.prog 6 = some { size := 1, bytes := 1, row := false, zero := [.sc (.int .u8 0)], kind := .int .u8 } := by kernel_rfl
theorem ty7 : mkTy Tryd.prog 7 = some { size := 4, bytes := 24, row := true, zero := [.sc (.int .i64 0), .sc (.int .i64 0), .sc (.bool false), .sc (.int .u8 0)], kind := .struct [(0, 1, false), (1, 1, false), (2, 1, false), (3, 1, false)] } := by kernel_rfl
theorem ty8 : mkTy Tryd.prog 8 = some { size := 4, bytes := 24, row := true, zero := [.sc (.int .i64 0), .sc (.int .i64 0), .sc (.bool false), .sc (.int .u8 0)], kind := .struct [(0, 1, false), (1, 1, false), (2, 1, false), (3, 1, false)] } := by kernel_rfl
theorem ty9 : mkTy Tryd.prog 9 = some { size := 1, bytes := 16, row := false, zero := [.sc (.string .empty)], kind := .str } := by kernel_rfl
theorem ty10 : mkTy Tryd.prog 10 = some { size := 1, bytes := 16, row := false, zero := [.sc (.string .empty)], kind := .str } := by kernel_rfl
theorem ty11 : mkTy Tryd.prog 11 = some { size := 1, bytes := 16, row := false, zero := [.sc (.string .empty)], kind := .str } := by kernel_rfl
theorem ty12 : mkTy Tryd.prog 12 = some { size := 1, bytes := 8, row := false, zero := [.sc (.int .u64 0)], kind := .int .u64 } := by kernel_rfl
theorem ty13 : mkTy Tryd.prog 13 = some { size := 2, bytes := 24, row := true, zero := [.sc (.string .empty), .sc (.int .u64 0)], kind := .struct [(0, 1, false), (1, 1, false)] } := by kernel_rfl
theorem ty14 : mkTy Tryd.prog 14 = some { size := 2, bytes := 24, row := true, zero := [.sc (.string .empty), .sc (.int .u64 0)], kind := .struct [(0, 1, false), (1, 1, false)] } := by kernel_rfl
theorem ty15 : mkTy Tryd.prog 15 = some { size := 1, bytes := 8, row := false, zero := [.sc (.pointer none)], kind := .other } := by kernel_rfl
theorem ty16 : mkTy Tryd.prog 16 = some { size := 1, bytes := 8, row := false, zero := [.sc (.pointer none)], kind := .other } := by kernel_rfl
theorem ty17 : mkTy Tryd.prog 17 = some { size := 1, bytes := 8, row := false, zero := [.sc (.pointer none)], kind := .other } := by kernel_rfl
theorem ty18 : mkTy Tryd.prog 18 = some { size := 1, bytes := 8, row := true, zero := [.sc (.pointer none)], kind := .struct [(0, 1, false)] } := by kernel_rfl
theorem ty19 : mkTy Tryd.prog 19 = some { size := 1, bytes := 8, row := true, zero := [.sc (.pointer none)], kind := .struct [(0, 1, false)] } := by kernel_rfl
theorem ty21 : mkTy Tryd.prog 21 = some { size := 1, bytes := 4, row := false, zero := [.sc (.int .i32 0)], kind := .int .i32 } := by kernel_rfl
theorem ty22 : mkTy Tryd.prog 22 = some { size := 1, bytes := 24, row := false, zero := [.nl], kind := .slice 62 } := by kernel_rfl
theorem ty23 : mkTy Tryd.prog 23 = some { size := 1, bytes := 24, row := false, zero := [.nl], kind := .slice 52 } := by kernel_rfl
theorem ty24 : mkTy Tryd.prog 24 = some { size := 1, bytes := 24, row := false, zero := [.nl], kind := .slice 55 } := by kernel_rfl
theorem ty25 : mkTy Tryd.prog 25 = some { size := 2, bytes := 32, row := true, zero := [.sc (.bool false), .nl], kind := .struct [(0, 1, false), (1, 1, false)] } := by kernel_rfl
theorem ty26 : mkTy Tryd.prog 26 = some { size := 2, bytes := 32, row := true, zero := [.sc (.bool false), .nl], kind := .struct [(0, 1, false), (1, 1, false)] } := by kernel_rfl
theorem ty27 : mkTy Tryd.prog 27 = some { size := 8, bytes := 128, row := true, zero := [.sc (.bool false), .nl, .sc (.bool false), .nl, .sc (.bool false), .nl, .sc (.bool false), .nl], kind := .array 4 26 2 true } := by kernel_rfl
theorem ty28 : mkTy Tryd.prog 28 = some { size := 16, bytes := 256, row := true, zero := [.sc (.bool false), .nl, .sc (.bool false), .nl, .sc (.bool false), .nl, .sc (.bool false), .nl, .sc (.bool false), .nl, .sc (.bool false), .nl, .sc (.bool false), .nl, .sc (.bool false), .nl], kind := .array 2 27 8 true } := by kernel_rfl
theorem ty29 : mkTy Tryd.prog 29 = some { size := 19, bytes := 304, row := true, zero := [.sc (.bool false), .sc (.string .empty), .nl, .sc (.bool false), .nl, .sc (.bool false), .nl, .sc (.bool false), .nl, .sc (.bool false), .nl, .sc (.bool false), .nl, .sc (.bool false), .nl, .sc (.bool false), .nl, .sc (.bool false), .nl], kind := .struct [(0, 1, false), (1, 1, false), (2, 1, false), (3, 16, true)] } := by kernel_rfl
theorem ty30 : mkTy Tryd.prog 30 = some { size := 19, bytes := 304, row := true, zero := [.sc (.bool false), .sc (.string .empty), .nl, .sc (.bool false), .nl, .sc (.bool false), .nl, .sc (.bool false), .nl, .sc (.bool false), .nl, .sc (.bool false), .nl, .sc (.bool false), .nl, .sc (.bool false), .nl, .sc (.bool false), .nl], kind := .struct [(0, 1, false), (1, 1, false), (2, 1, false), (3, 16, true)] } := by kernel_rfl
theorem ty31 : mkTy Tryd.prog 31 = some { size := 1, bytes := 8, row := false, zero := [.sc (.pointer none)], kind := .other } := by kernel_rfl
theorem ty36 : mkTy Tryd.prog 36 = some { size := 1, bytes := 8, row := false, zero := [.sc (.int .i64 0)], kind := .int .i64 } := by kernel_rfl
theorem ty40 : mkTy Tryd.prog 40 = some { size := 1, bytes := 24, row := false, zero := [.nl], kind := .slice 24 } := by kernel_rfl
theorem ty43 : mkTy Tryd.prog 43 = some { size := 2, bytes := 2, row := true, zero := [.sc (.bool false), .sc (.bool false)], kind := .array 2 4 1 false } := by kernel_rfl
theorem ty49 : mkTy Tryd.prog 49 = some { size := 3, bytes := 56, row := true, zero := [.nl, .sc (.int .i64 0), .nl], kind := .struct [(0, 1, false), (1, 1, false), (2, 1, false)] } := by kernel_rfl
theorem ty50 : mkTy Tryd.prog 50 = some { size := 3, bytes := 56, row := true, zero := [.nl, .sc (.int .i64 0), .nl], kind := .struct [(0, 1, false), (1, 1, false), (2, 1, false)] } := by kernel_rfl
theorem ty51 : mkTy Tryd.prog 51 = some { size := 3, bytes := 32, row := true, zero := [.sc (.string .empty), .sc (.int .i64 0), .sc (.bool false)], kind := .struct [(0, 1, false), (1, 1, false), (2, 1, false)] } := by kernel_rfl
theorem ty52 : mkTy Tryd.prog 52 = some { size := 3, bytes := 32, row := true, zero := [.sc (.string .empty), .sc (.int .i64 0), .sc (.bool false)], kind := .struct [(0, 1, false), (1, 1, false), (2, 1, false)] } := by kernel_rfl
theorem ty53 : mkTy Tryd.prog 53 = some { size := 1, bytes := 8, row := false, zero := [.sc (.int .u64 0)], kind := .int .u64 } := by kernel_rfl
theorem ty54 : mkTy Tryd.prog 54 = some { size := 4, bytes := 40, row := true, zero := [.sc (.int .i64 0), .sc (.int .i64 0), .sc (.int .u64 0), .sc (.string .empty)], kind := .struct [(0, 1, false), (1, 1, false), (2, 1, false), (3, 1, false)] } := by kernel_rfl
theorem ty55 : mkTy Tryd.prog 55 = some { size := 4, bytes := 40, row := true, zero := [.sc (.int .i64 0), .sc (.int .i64 0), .sc (.int .u64 0), .sc (.string .empty)], kind := .struct [(0, 1, false), (1, 1, false), (2, 1, false), (3, 1, false)] } := by kernel_rfl
theorem ty56 : mkTy Tryd.prog 56 = some { size := 1, bytes := 24, row := false, zero := [.nl], kind := .slice 58 } := by kernel_rfl
theorem ty57 : mkTy Tryd.prog 57 = some { size := 7, bytes := 88, row := true, zero := [.sc (.int .i64 0), .sc (.int .i64 0), .sc (.int .i64 0), .sc (.int .u64 0), .sc (.string .empty), .sc (.string .empty), .nl], kind := .struct [(0, 1, false), (1, 4, true), (5, 1, false), (6, 1, false)] } := by kernel_rfl
theorem ty58 : mkTy Tryd.prog 58 = some { size := 7, bytes := 88, row := true, zero := [.sc (.int .i64 0), .sc (.int .i64 0), .sc (.int .i64 0), .sc (.int .u64 0), .sc (.string .empty), .sc (.string .empty), .nl], kind := .struct [(0, 1, false), (1, 4, true), (5, 1, false), (6, 1, false)] } := by kernel_rfl
theorem ty61 : mkTy Tryd.prog 61 = some { size := 4, bytes := 40, row := true, zero := [.sc (.int .i64 0), .sc (.int .i64 0), .sc (.int .i64 0), .sc (.string .empty)], kind := .struct [(0, 1, false), (1, 1, false), (2, 1, false), (3, 1, false)] } := by kernel_rfl
theorem ty62 : mkTy Tryd.prog 62 = some { size := 4, bytes := 40, row := true, zero := [.sc (.int .i64 0), .sc (.int .i64 0), .sc (.int .i64 0), .sc (.string .empty)], kind := .struct [(0, 1, false), (1, 1, false), (2, 1, false), (3, 1, false)] } := by kernel_rfl
theorem ty65 : mkTy Tryd.prog 65 = some { size := 2, bytes := 16, row := true, zero := [.sc (.int .i64 0), .sc (.int .i64 0)], kind := .struct [(0, 1, false), (1, 1, false)] } := by kernel_rfl
theorem ty66 : mkTy Tryd.prog 66 = some { size := 2, bytes := 16, row := true, zero := [.sc (.int .i64 0), .sc (.int .i64 0)], kind := .struct [(0, 1, false), (1, 1, false)] } := by kernel_rfl
theorem ty79 : mkTy Tryd.prog 79 = some { size := 8, bytes := 104, row := true, zero := [.sc (.string .empty), .sc (.int .i64 0), .sc (.int .i64 0), .sc (.int .i64 0), .sc (.int .u64 0), .sc (.string .empty), .sc (.string .empty), .nl], kind := .struct [(0, 1, false), (1, 7, true)] } := by kernel_rfl
theorem ty80 : mkTy Tryd.prog 80 = some { size := 8, bytes := 104, row := true, zero := [.sc (.string .empty), .sc (.int .i64 0), .sc (.int .i64 0), .sc (.int .i64 0), .sc (.int .u64 0), .sc (.string .empty), .sc (.string .empty), .nl], kind := .struct [(0, 1, false), (1, 7, true)] } := by kernel_rfl
theorem ty81 : mkTy Tryd.prog 81 = some { size := 1, bytes := 24, row := false, zero := [.nl], kind := .slice 80 } := by kernel_rfl
theorem ty82 : mkTy Tryd.prog 82 = some { size := 1, bytes := 24, row := false, zero := [.nl], kind := .slice 3 } := by kernel_rfl
theorem ty85 : mkTy Tryd.prog 85 = some { size := 1, bytes := 24, row := false, zero := [.nl], kind := .slice 134 } := by kernel_rfl
theorem ty86 : mkTy Tryd.prog 86 = some { size := 1, bytes := 24, row := true, zero := [.nl], kind := .struct [(0, 1, false)] } := by kernel_rfl
theorem ty87 : mkTy Tryd.prog 87 = some { size := 1, bytes := 24, row := true, zero := [.nl], kind := .struct [(0, 1, false)] } := by kernel_rfl
theorem ty100 : mkTy Tryd.prog 100 = some { size := 4, bytes := 40, row := true, zero := [.sc (.int .i64 0), .sc (.string .empty), .sc (.int .i64 0), .sc (.int .u64 0)], kind := .struct [(0, 1, false), (1, 1, false), (2, 1, false), (3, 1, false)] } := by kernel_rfl
theorem ty101 : mkTy Tryd.prog 101 = some { size := 4, bytes := 40, row := true, zero := [.sc (.int .i64 0), .sc (.string .empty), .sc (.int .i64 0), .sc (.int .u64 0)], kind := .struct [(0, 1, false), (1, 1, false), (2, 1, false), (3, 1, false)] } := by kernel_rfl
theorem ty112 : mkTy Tryd.prog 112 = some { size := 1, bytes := 16, row := false, zero := [.sc .nilIface], kind := .other } := by kernel_rfl
theorem ty116 : mkTy Tryd.prog 116 = some { size := 1, bytes := 8, row := false, zero := [.sc (.pointer none)], kind := .other } := by kernel_rfl
theorem ty127 : mkTy Tryd.prog 127 = some { size := 1, bytes := 24, row := false, zero := [.nl], kind := .slice 131 } := by kernel_rfl
theorem ty130 : mkTy Tryd.prog 130 = some { size := 2, bytes := 24, row := true, zero := [.sc (.string .empty), .sc (.int .i64 0)], kind := .struct [(0, 1, false), (1, 1, false)] } := by kernel_rfl
theorem ty131 : mkTy Tryd.prog 131 = some { size := 2, bytes := 24, row := true, zero := [.sc (.string .empty), .sc (.int .i64 0)], kind := .struct [(0, 1, false), (1, 1, false)] } := by kernel_rfl
theorem ty132 : mkTy Tryd.prog 132 = some { size := 1, bytes := 24, row := false, zero := [.nl], kind := .slice 9 } := by kernel_rfl
theorem ty133 : mkTy Tryd.prog 133 = some { size := 3, bytes := 72, row := true, zero := [.nl, .nl, .nl], kind := .struct [(0, 1, false), (1, 1, false), (2, 1, false)] } := by kernel_rfl
theorem ty134 : mkTy Tryd.prog 134 = some { size := 3, bytes := 72, row := true, zero := [.nl, .nl, .nl], kind := .struct [(0, 1, false), (1, 1, false), (2, 1, false)] } := by kernel_rfl
theorem ty143 : mkTy Tryd.prog 143 = some { size := 1, bytes := 24, row := false, zero := [.nl], kind := .slice 26 } := by kernel_rfl
theorem ty149 : mkTy Tryd.prog 149 = some { size := 2, bytes := 24, row := true, zero := [.sc (.int .i64 0), .sc .nilIface], kind := .struct [(0, 1, false), (1, 1, false)] } := by kernel_rfl
theorem ty150 : mkTy Tryd.prog 150 = some { size := 2, bytes := 24, row := true, zero := [.sc (.int .i64 0), .sc .nilIface], kind := .struct [(0, 1, false), (1, 1, false)] } := by kernel_rfl
theorem ty151 : mkTy Tryd.prog 151 = some { size := 3, bytes := 40, row := true, zero := [.sc (.int .i64 0), .sc .nilIface, .sc .nilIface], kind := .struct [(0, 1, false), (1, 1, false), (2, 1, false)] } := by kernel_rfl
theorem ty152 : mkTy Tryd.prog 152 = some { size := 3, bytes := 40, row := true, zero := [.sc (.int .i64 0), .sc .nilIface, .sc .nilIface], kind := .struct [(0, 1, false), (1, 1, false), (2, 1, false)] } := by kernel_rfl
theorem ty153 : mkTy Tryd.prog 153 = some { size := 4, bytes := 40, row := true, zero := [.sc (.int .i64 0), .sc (.int .i64 0), .sc (.int .u64 0), .sc (.string .empty)], kind := .struct [(0, 4, true)] } := by kernel_rfl
theorem ty154 : mkTy Tryd.prog 154 = some { size := 4, bytes := 40, row := true, zero := [.sc (.int .i64 0), .sc (.int .i64 0), .sc (.int .u64 0), .sc (.string .empty)], kind := .struct [(0, 4, true)] } := by kernel_rfl
theorem ty155 : mkTy Tryd.prog 155 = some { size := 1, bytes := 8, row := true, zero := [.sc (.int .i64 0)], kind := .struct [(0, 1, false)] } := by kernel_rfl
theorem ty156 : mkTy Tryd.prog 156 = some { size := 1, bytes := 8, row := true, zero := [.sc (.int .i64 0)], kind := .struct [(0, 1, false)] } := by kernel_rfl
theorem ty157 : mkTy Tryd.prog 157 = some { size := 0, bytes := 0, row := true, zero := [], kind := .struct [] } := by kernel_rfl
theorem ty158 : mkTy Tryd.prog 158 = some { size := 0, bytes := 0, row := true, zero := [], kind := .struct [] } := by kernel_rfl
theorem ty164 : mkTy Tryd.prog 164 = some { size := 1, bytes := 8, row := false, zero := [.sc (.pointer none)], kind := .other } := by kernel_rfl
theorem ty169 : mkTy Tryd.prog 169 = some { size := 1, bytes := 24, row := false, zero := [.nl], kind := .slice 5 } := by kernel_rfl
theorem ty172 : mkTy Tryd.prog 172 = some { size := 1, bytes := 8, row := false, zero := [.sc (.int .u64 0)], kind := .int .u64 } := by kernel_rfl
theorem ty174 : mkTy Tryd.prog 174 = some { size := 256, bytes := 256, row := true, zero := List.replicate 256 (.sc (.int .u8 0)), kind := .array 256 5 1 false } := by kernel_rfl
theorem ty175 : mkTy Tryd.prog 175 = some { size := 2, bytes := 2, row := true, zero := [.sc (.int .u8 0), .sc (.int .u8 0)], kind := .struct [(0, 1, false), (1, 1, false)] } := by kernel_rfl
theorem ty176 : mkTy Tryd.prog 176 = some { size := 2, bytes := 2, row := true, zero := [.sc (.int .u8 0), .sc (.int .u8 0)], kind := .struct [(0, 1, false), (1, 1, false)] } := by kernel_rfl
theorem ty177 : mkTy Tryd.prog 177 = some { size := 32, bytes := 32, row := true, zero := List.replicate 32 (.sc (.int .u8 0)), kind := .array 16 176 2 true } := by kernel_rfl
theorem ty178 : mkTy Tryd.prog 178 = some { size := 1, bytes := 8, row := false, zero := [.sc (.float .f64 0)], kind := .other } := by kernel_rfl
theorem ty181 : mkTy Tryd.prog 181 = some { size := 2, bytes := 16, row := true, zero := [.sc (.int .i64 0), .sc (.bool false)], kind := .struct [(0, 1, false), (1, 1, false)] } := by kernel_rfl
theorem ty182 : mkTy Tryd.prog 182 = some { size := 2, bytes := 16, row := true, zero := [.sc (.int .i64 0), .sc (.bool false)], kind := .struct [(0, 1, false), (1, 1, false)] } := by kernel_rfl
theorem ty186 : mkTy Tryd.prog 186 = some { size := 1, bytes := 24, row := false, zero := [.nl], kind := .slice 164 } := by kernel_rfl
theorem ty187 : mkTy Tryd.prog 187 = some { size := 3, bytes := 72, row := true, zero := [.nl, .nl, .nl], kind := .struct [(0, 1, false), (1, 1, false), (2, 1, false)] } := by kernel_rfl
theorem ty188 : mkTy Tryd.prog 188 = some { size := 3, bytes := 72, row := true, zero := [.nl, .nl, .nl], kind := .struct [(0, 1, false), (1, 1, false), (2, 1, false)] } := by kernel_rfl
theorem ty191 : mkTy Tryd.prog 191 = some { size := 1, bytes := 8, row := false, zero := [.sc (.pointer none)], kind := .other } := by kernel_rfl
theorem ty196 : mkTy Tryd.prog 196 = some { size := 4, bytes := 32, row := true, zero := [.sc (.int .i64 0), .sc (.bool false), .sc (.int .i64 0), .sc (.bool false)], kind := .array 2 182 2 true } := by kernel_rfl
theorem ty204 : mkTy Tryd.prog 204 = some { size := 1, bytes := 24, row := false, zero := [.nl], kind := .slice 182 } := by kernel_rfl
theorem ty209 : mkTy Tryd.prog 209 = some { size := 4, bytes := 40, row := true, zero := [.sc (.pointer none), .sc (.pointer none), .sc (.pointer none), .sc (.string .empty)], kind := .struct [(0, 1, false), (1, 1, false), (2, 1, false), (3, 1, false)] } := by kernel_rfl
theorem ty210 : mkTy Tryd.prog 210 = some { size := 4, bytes := 40, row := true, zero := [.sc (.pointer none), .sc (.pointer none), .sc (.pointer none), .sc (.string .empty)], kind := .struct [(0, 1, false), (1, 1, false), (2, 1, false), (3, 1, false)] } := by kernel_rfl
theorem ty212 : mkTy Tryd.prog 212 = some { size := 0, bytes := 0, row := true, zero := [], kind := .struct [(0, 0, true)] } := by kernel_rfl
theorem ty213 : mkTy Tryd.prog 213 = some { size := 0, bytes := 0, row := true, zero := [], kind := .struct [(0, 0, true)] } := by kernel_rfl
theorem ty215 : mkTy Tryd.prog 215 = some { size := 1, bytes := 4, row := false, zero := [.sc (.int .u32 0)], kind := .int .u32 } := by kernel_rfl
theorem ty216 : mkTy Tryd.prog 216 = some { size := 1, bytes := 1, row := false, zero := [.sc (.int .u8 0)], kind := .int .u8 } := by kernel_rfl
theorem ty217 : mkTy Tryd.prog 217 = some { size := 1, bytes := 1, row := false, zero := [.sc (.int .u8 0)], kind := .int .u8 } := by kernel_rfl
theorem ty219 : mkTy Tryd.prog 219 = some { size := 1, bytes := 8, row := false, zero := [.sc (.pointer none)], kind := .other } := by kernel_rfl
theorem ty220 : mkTy Tryd.prog 220 = some { size := 1, bytes := 4, row := false, zero := [.sc (.int .i32 0)], kind := .int .i32 } := by kernel_rfl
theorem ty221 : mkTy Tryd.prog 221 = some { size := 1, bytes := 4, row := false, zero := [.sc (.int .i32 0)], kind := .int .i32 } := by kernel_rfl
theorem ty222 : mkTy Tryd.prog 222 = some { size := 11, bytes := 48, row := true, zero := [.sc (.int .u64 0), .sc (.int .u64 0), .sc (.int .u32 0), .sc (.int .u8 0), .sc (.int .u8 0), .sc (.int .u8 0), .sc (.int .u8 0), .sc .nilFunc, .sc (.pointer none), .sc (.int .i32 0), .sc (.int .i32 0)], kind := .struct [(0, 1, false), (1, 1, false), (2, 1, false), (3, 1, false), (4, 1, false), (5, 1, false), (6, 1, false), (7, 1, false), (8, 1, false), (9, 1, false), (10, 1, false)] } := by kernel_rfl
theorem ty223 : mkTy Tryd.prog 223 = some { size := 11, bytes := 48, row := true, zero := [.sc (.int .u64 0), .sc (.int .u64 0), .sc (.int .u32 0), .sc (.int .u8 0), .sc (.int .u8 0), .sc (.int .u8 0), .sc (.int .u8 0), .sc .nilFunc, .sc (.pointer none), .sc (.int .i32 0), .sc (.int .i32 0)], kind := .struct [(0, 1, false), (1, 1, false), (2, 1, false), (3, 1, false), (4, 1, false), (5, 1, false), (6, 1, false), (7, 1, false), (8, 1, false), (9, 1, false), (10, 1, false)] } := by kernel_rfl
theorem ty237 : mkTy Tryd.prog 237 = some { size := 1, bytes := 8, row := false, zero := [.sc (.pointer none)], kind := .other } := by kernel_rfl
def TL : List (Nat × TyI) := [(2, { size := 1, bytes := 8, row := false, zero := [.sc (.int .i64 0)], kind := .int .i64 }),
  (3, { size := 1, bytes := 8, row := false, zero := [.sc (.int .i64 0)], kind := .int .i64 }),
  (4, { size := 1, bytes := 1, row := false, zero := [.sc (.bool false)], kind := .bool }),
  (5, { size := 1, bytes := 1, row := false, zero := [.sc (.int .u8 0)], kind := .int .u8 }),
  (6, { size := 1, bytes := 1, row := false, zero := [.sc (.int .u8 0)], kind := .int .u8 }),
  (7, { size := 4, bytes := 24, row := true, zero := [.sc (.int .i64 0), .sc (.int .i64 0), .sc (.bool false), .sc (.int .u8 0)], kind := .struct [(0, 1, false), (1, 1, false), (2, 1, false), (3, 1, false)] }),
  (8, { size := 4, bytes := 24, row := true, zero := [.sc (.int .i64 0), .sc (.int .i64 0), .sc (.bool false), .sc (.int .u8 0)], kind := .struct [(0, 1, false), (1, 1, false), (2, 1, false), (3, 1, false)] }),
  (9, { size := 1, bytes := 16, row := false, zero := [.sc (.string .empty)], kind := .str }),
  (10, { size := 1, bytes := 16, row := false, zero := [.sc (.string .empty)], kind := .str }),
  (11, { size := 1, bytes := 16, row := false, zero := [.sc (.string .empty)], kind := .str }),
  (12, { size := 1, bytes := 8, row := false, zero := [.sc (.int .u64 0)], kind := .int .u64 }),
  (13, { size := 2, bytes := 24, row := true, zero := [.sc (.string .empty), .sc (.int .u64 0)], kind := .struct [(0, 1, false), (1, 1, false)] }),
  (14, { size := 2, bytes := 24, row := true, zero := [.sc (.string .empty), .sc (.int .u64 0)], kind := .struct [(0, 1, false), (1, 1, false)] }),
  (15, { size := 1, bytes := 8, row := false, zero := [.sc (.pointer none)], kind := .other }),
  (16, { size := 1, bytes := 8, row := false, zero := [.sc (.pointer none)], kind := .other }),
  (17, { size := 1, bytes := 8, row := false, zero := [.sc (.pointer none)], kind := .other }),
  (18, { size := 1, bytes := 8, row := true, zero := [.sc (.pointer none)], kind := .struct [(0, 1, false)] }),
  (19, { size := 1, bytes := 8, row := true, zero := [.sc (.pointer none)], kind := .struct [(0, 1, false)] }),
  (21, { size := 1, bytes := 4, row := false, zero := [.sc (.int .i32 0)], kind := .int .i32 }),
  (22, { size := 1, bytes := 24, row := false, zero := [.nl], kind := .slice 62 }),
  (23, { size := 1, bytes := 24, row := false, zero := [.nl], kind := .slice 52 }),
  (24, { size := 1, bytes := 24, row := false, zero := [.nl], kind := .slice 55 }),
  (25, { size := 2, bytes := 32, row := true, zero := [.sc (.bool false), .nl], kind := .struct [(0, 1, false), (1, 1, false)] }),
  (26, { size := 2, bytes := 32, row := true, zero := [.sc (.bool false), .nl], kind := .struct [(0, 1, false), (1, 1, false)] }),
  (27, { size := 8, bytes := 128, row := true, zero := [.sc (.bool false), .nl, .sc (.bool false), .nl, .sc (.bool false), .nl, .sc (.bool false), .nl], kind := .array 4 26 2 true }),
  (28, { size := 16, bytes := 256, row := true, zero := [.sc (.bool false), .nl, .sc (.bool false), .nl, .sc (.bool false), .nl, .sc (.bool false), .nl, .sc (.bool false), .nl, .sc (.bool false), .nl, .sc (.bool false), .nl, .sc (.bool false), .nl], kind := .array 2 27 8 true }),
  (29, { size := 19, bytes := 304, row := true, zero := [.sc (.bool false), .sc (.string .empty), .nl, .sc (.bool false), .nl, .sc (.bool false), .nl, .sc (.bool false), .nl, .sc (.bool false), .nl, .sc (.bool false), .nl, .sc (.bool false), .nl, .sc (.bool false), .nl, .sc (.bool false), .nl], kind := .struct [(0, 1, false), (1, 1, false), (2, 1, false), (3, 16, true)] }),
  (30, { size := 19, bytes := 304, row := true, zero := [.sc (.bool false), .sc (.string .empty), .nl, .sc (.bool false), .nl, .sc (.bool false), .nl, .sc (.bool false), .nl, .sc (.bool false), .nl, .sc (.bool false), .nl, .sc (.bool false), .nl, .sc (.bool false), .nl, .sc (.bool false), .nl], kind := .struct [(0, 1, false), (1, 1, false), (2, 1, false), (3, 16, true)] }),
  (31, { size := 1, bytes := 8, row := false, zero := [.sc (.pointer none)], kind := .other }),
  (36, { size := 1, bytes := 8, row := false, zero := [.sc (.int .i64 0)], kind := .int .i64 }),
  (40, { size := 1, bytes := 24, row := false, zero := [.nl], kind := .slice 24 }),
  (43, { size := 2, bytes := 2, row := true, zero := [.sc (.bool false), .sc (.bool false)], kind := .array 2 4 1 false }),
  (49, { size := 3, bytes := 56, row := true, zero := [.nl, .sc (.int .i64 0), .nl], kind := .struct [(0, 1, false), (1, 1, false), (2, 1, false)] }),
  (50, { size := 3, bytes := 56, row := true, zero := [.nl, .sc (.int .i64 0), .nl], kind := .struct [(0, 1, false), (1, 1, false), (2, 1, false)] }),
  (51, { size := 3, bytes := 32, row := true, zero := [.sc (.string .empty), .sc (.int .i64 0), .sc (.bool false)], kind := .struct [(0, 1, false), (1, 1, false), (2, 1, false)] }),
  (52, { size := 3, bytes := 32, row := true, zero := [.sc (.string .empty), .sc (.int .i64 0), .sc (.bool false)], kind := .struct [(0, 1, false), (1, 1, false), (2, 1, false)] }),
  (53, { size := 1, bytes := 8, row := false, zero := [.sc (.int .u64 0)], kind := .int .u64 }),
  (54, { size := 4, bytes := 40, row := true, zero := [.sc (.int .i64 0), .sc (.int .i64 0), .sc (.int .u64 0), .sc (.string .empty)], kind := .struct [(0, 1, false), (1, 1, false), (2, 1, false), (3, 1, false)] }),
  (55, { size := 4, bytes := 40, row := true, zero := [.sc (.int .i64 0), .sc (.int .i64 0), .sc (.int .u64 0), .sc (.string .empty)], kind := .struct [(0, 1, false), (1, 1, false), (2, 1, false), (3, 1, false)] }),
  (56, { size := 1, bytes := 24, row := false, zero := [.nl], kind := .slice 58 }),
  (57, { size := 7, bytes := 88, row := true, zero := [.sc (.int .i64 0), .sc (.int .i64 0), .sc (.int .i64 0), .sc (.int .u64 0), .sc (.string .empty), .sc (.string .empty), .nl], kind := .struct [(0, 1, false), (1, 4, true), (5, 1, false), (6, 1, false)] }),
  (58, { size := 7, bytes := 88, row := true, zero := [.sc (.int .i64 0), .sc (.int .i64 0), .sc (.int .i64 0), .sc (.int .u64 0), .sc (.string .empty), .sc (.string .empty), .nl], kind := .struct [(0, 1, false), (1, 4, true), (5, 1, false), (6, 1, false)] }),
  (61, { size := 4, bytes := 40, row := true, zero := [.sc (.int .i64 0), .sc (.int .i64 0), .sc (.int .i64 0), .sc (.string .empty)], kind := .struct [(0, 1, false), (1, 1, false), (2, 1, false), (3, 1, false)] }),
  (62, { size := 4, bytes := 40, row := true, zero := [.sc (.int .i64 0), .sc (.int .i64 0), .sc (.int .i64 0), .sc (.string .empty)], kind := .struct [(0, 1, false), (1, 1, false), (2, 1, false), (3, 1, false)] }),
  (65, { size := 2, bytes := 16, row := true, zero := [.sc (.int .i64 0), .sc (.int .i64 0)], kind := .struct [(0, 1, false), (1, 1, false)] }),
  (66, { size := 2, bytes := 16, row := true, zero := [.sc (.int .i64 0), .sc (.int .i64 0)], kind := .struct [(0, 1, false), (1, 1, false)] }),
  (79, { size := 8, bytes := 104, row := true, zero := [.sc (.string .empty), .sc (.int .i64 0), .sc (.int .i64 0), .sc (.int .i64 0), .sc (.int .u64 0), .sc (.string .empty), .sc (.string .empty), .nl], kind := .struct [(0, 1, false), (1, 7, true)] }),
  (80, { size := 8, bytes := 104, row := true, zero := [.sc (.string .empty), .sc (.int .i64 0), .sc (.int .i64 0), .sc (.int .i64 0), .sc (.int .u64 0), .sc (.string .empty), .sc (.string .empty), .nl], kind := .struct [(0, 1, false), (1, 7, true)] }),
  (81, { size := 1, bytes := 24, row := false, zero := [.nl], kind := .slice 80 }),
  (82, { size := 1, bytes := 24, row := false, zero := [.nl], kind := .slice 3 }),
  (85, { size := 1, bytes := 24, row := false, zero := [.nl], kind := .slice 134 }),
  (86, { size := 1, bytes := 24, row := true, zero := [.nl], kind := .struct [(0, 1, false)] }),
  (87, { size := 1, bytes := 24, row := true, zero := [.nl], kind := .struct [(0, 1, false)] }),
  (100, { size := 4, bytes := 40, row := true, zero := [.sc (.int .i64 0), .sc (.string .empty), .sc (.int .i64 0), .sc (.int .u64 0)], kind := .struct [(0, 1, false), (1, 1, false), (2, 1, false), (3, 1, false)] }),
  (101, { size := 4, bytes := 40, row := true, zero := [.sc (.int .i64 0), .sc (.string .empty), .sc (.int .i64 0), .sc (.int .u64 0)], kind := .struct [(0, 1, false), (1, 1, false), (2, 1, false), (3, 1, false)] }),
  (112, { size := 1, bytes := 16, row := false, zero := [.sc .nilIface], kind := .other }),
  (116, { size := 1, bytes := 8, row := false, zero := [.sc (.pointer none)], kind := .other }),
  (127, { size := 1, bytes := 24, row := false, zero := [.nl], kind := .slice 131 }),
  (130, { size := 2, bytes := 24, row := true, zero := [.sc (.string .empty), .sc (.int .i64 0)], kind := .struct [(0, 1, false), (1, 1, false)] }),
  (131, { size := 2, bytes := 24, row := true, zero := [.sc (.string .empty), .sc (.int .i64 0)], kind := .struct [(0, 1, false), (1, 1, false)] }),
  (132, { size := 1, bytes := 24, row := false, zero := [.nl], kind := .slice 9 }),
  (133, { size := 3, bytes := 72, row := true, zero := [.nl, .nl, .nl], kind := .struct [(0, 1, false), (1, 1, false), (2, 1, false)] }),
  (134, { size := 3, bytes := 72, row := true, zero := [.nl, .nl, .nl], kind := .struct [(0, 1, false), (1, 1, false), (2, 1, false)] }),
  (143, { size := 1, bytes := 24, row := false, zero := [.nl], kind := .slice 26 }),
  (149, { size := 2, bytes := 24, row := true, zero := [.sc (.int .i64 0), .sc .nilIface], kind := .struct [(0, 1, false), (1, 1, false)] }),
  (150, { size := 2, bytes := 24, row := true, zero := [.sc (.int .i64 0), .sc .nilIface], kind := .struct [(0, 1, false), (1, 1, false)] }),
  (151, { size := 3, bytes := 40, row := true, zero := [.sc (.int .i64 0), .sc .nilIface, .sc .nilIface], kind := .struct [(0, 1, false), (1, 1, false), (2, 1, false)] }),
  (152, { size := 3, bytes := 40, row := true, zero := [.sc (.int .i64 0), .sc .nilIface, .sc .nilIface], kind := .struct [(0, 1, false), (1, 1, false), (2, 1, false)] }),
  (153, { size := 4, bytes := 40, row := true, zero := [.sc (.int .i64 0), .sc (.int .i64 0), .sc (.int .u64 0), .sc (.string .empty)], kind := .struct [(0, 4, true)] }),
  (154, { size := 4, bytes := 40, row := true, zero := [.sc (.int .i64 0), .sc (.int .i64 0), .sc (.int .u64 0), .sc (.string .empty)], kind := .struct [(0, 4, true)] }),
  (155, { size := 1, bytes := 8, row := true, zero := [.sc (.int .i64 0)], kind := .struct [(0, 1, false)] }),
  (156, { size := 1, bytes := 8, row := true, zero := [.sc (.int .i64 0)], kind := .struct [(0, 1, false)] }),
  (157, { size := 0, bytes := 0, row := true, zero := [], kind := .struct [] }),
  (158, { size := 0, bytes := 0, row := true, zero := [], kind := .struct [] }),
  (164, { size := 1, bytes := 8, row := false, zero := [.sc (.pointer none)], kind := .other }),
  (169, { size := 1, bytes := 24, row := false, zero := [.nl], kind := .slice 5 }),
  (172, { size := 1, bytes := 8, row := false, zero := [.sc (.int .u64 0)], kind := .int .u64 }),
  (174, { size := 256, bytes := 256, row := true, zero := List.replicate 256 (.sc (.int .u8 0)), kind := .array 256 5 1 false }),
  (175, { size := 2, bytes := 2, row := true, zero := [.sc (.int .u8 0), .sc (.int .u8 0)], kind := .struct [(0, 1, false), (1, 1, false)] }),
  (176, { size := 2, bytes := 2, row := true, zero := [.sc (.int .u8 0), .sc (.int .u8 0)], kind := .struct [(0, 1, false), (1, 1, false)] }),
  (177, { size := 32, bytes := 32, row := true, zero := List.replicate 32 (.sc (.int .u8 0)), kind := .array 16 176 2 true }),
  (178, { size := 1, bytes := 8, row := false, zero := [.sc (.float .f64 0)], kind := .other }),
  (181, { size := 2, bytes := 16, row := true, zero := [.sc (.int .i64 0), .sc (.bool false)], kind := .struct [(0, 1, false), (1, 1, false)] }),
  (182, { size := 2, bytes := 16, row := true, zero := [.sc (.int .i64 0), .sc (.bool false)], kind := .struct [(0, 1, false), (1, 1, false)] }),
  (186, { size := 1, bytes := 24, row := false, zero := [.nl], kind := .slice 164 }),
  (187, { size := 3, bytes := 72, row := true, zero := [.nl, .nl, .nl], kind := .struct [(0, 1, false), (1, 1, false), (2, 1, false)] }),
  (188, { size := 3, bytes := 72, row := true, zero := [.nl, .nl, .nl], kind := .struct [(0, 1, false), (1, 1, false), (2, 1, false)] }),
  (191, { size := 1, bytes := 8, row := false, zero := [.sc (.pointer none)], kind := .other }),
  (196, { size := 4, bytes := 32, row := true, zero := [.sc (.int .i64 0), .sc (.bool false), .sc (.int .i64 0), .sc (.bool false)], kind := .array 2 182 2 true }),
  (204, { size := 1, bytes := 24, row := false, zero := [.nl], kind := .slice 182 }),
  (209, { size := 4, bytes := 40, row := true, zero := [.sc (.pointer none), .sc (.pointer none), .sc (.pointer none), .sc (.string .empty)], kind := .struct [(0, 1, false), (1, 1, false), (2, 1, false), (3, 1, false)] }),
  (210, { size := 4, bytes := 40, row := true, zero := [.sc (.pointer none), .sc (.pointer none), .sc (.pointer none), .sc (.string .empty)], kind := .struct [(0, 1, false), (1, 1, false), (2, 1, false), (3, 1, false)] }),
  (212, { size := 0, bytes := 0, row := true, zero := [], kind := .struct [(0, 0, true)] }),
  (213, { size := 0, bytes := 0, row := true, zero := [], kind := .struct [(0, 0, true)] }),
  (215, { size := 1, bytes := 4, row := false, zero := [.sc (.int .u32 0)], kind := .int .u32 }),
  (216, { size := 1, bytes := 1, row := false, zero := [.sc (.int .u8 0)], kind := .int .u8 }),
  (217, { size := 1, bytes := 1, row := false, zero := [.sc (.int .u8 0)], kind := .int .u8 }),
  (219, { size := 1, bytes := 8, row := false, zero := [.sc (.pointer none)], kind := .other }),
  (220, { size := 1, bytes := 4, row := false, zero := [.sc (.int .i32 0)], kind := .int .i32 }),
  (221, { size := 1, bytes := 4, row := false, zero := [.sc (.int .i32 0)], kind := .int .i32 }),
  (222, { size := 11, bytes := 48, row := true, zero := [.sc (.int .u64 0), .sc (.int .u64 0), .sc (.int .u32 0), .sc (.int .u8 0), .sc (.int .u8 0), .sc (.int .u8 0), .sc (.int .u8 0), .sc .nilFunc, .sc (.pointer none), .sc (.int .i32 0), .sc (.int .i32 0)], kind := .struct [(0, 1, false), (1, 1, false), (2, 1, false), (3, 1, false), (4, 1, false), (5, 1, false), (6, 1, false), (7, 1, false), (8, 1, false), (9, 1, false), (10, 1, false)] }),
  (223, { size := 11, bytes := 48, row := true, zero := [.sc (.int .u64 0), .sc (.int .u64 0), .sc (.int .u32 0), .sc (.int .u8 0), .sc (.int .u8 0), .sc (.int .u8 0), .sc (.int .u8 0), .sc .nilFunc, .sc (.pointer none), .sc (.int .i32 0), .sc (.int .i32 0)], kind := .struct [(0, 1, false), (1, 1, false), (2, 1, false), (3, 1, false), (4, 1, false), (5, 1, false), (6, 1, false), (7, 1, false), (8, 1, false), (9, 1, false), (10, 1, false)] }),
  (237, { size := 1, bytes := 8, row := false, zero := [.sc (.pointer none)], kind := .other })]
theorem tlAll : ∀ p ∈ TL, mkTy Tryd.prog p.1 = some p.2 := by
  unfold TL
  refine List.forall_mem_cons.2 ⟨ty2, ?_⟩
  refine List.forall_mem_cons.2 ⟨ty3, ?_⟩
  refine List.forall_mem_cons.2 ⟨ty4, ?_⟩
  refine List.forall_mem_cons.2 ⟨ty5, ?_⟩
  refine List.forall_mem_cons.2 ⟨ty6, ?_⟩
  refine List.forall_mem_cons.2 ⟨ty7, ?_⟩
  refine List.forall_mem_cons.2 ⟨ty8, ?_⟩
  refine List.forall_mem_cons.2 ⟨ty9, ?_⟩
  refine List.forall_mem_cons.2 ⟨ty10, ?_⟩
  refine List.forall_mem_cons.2 ⟨ty11, ?_⟩
  refine List.forall_mem_cons.2 ⟨ty12, ?_⟩
  refine List.forall_mem_cons.2 ⟨ty13, ?_⟩
  refine List.forall_mem_cons.2 ⟨ty14, ?_⟩
  refine List.forall_mem_cons.2 ⟨ty15, ?_⟩
  refine List.forall_mem_cons.2 ⟨ty16, ?_⟩
  refine List.forall_mem_cons.2 ⟨ty17, ?_⟩
  refine List.forall_mem_cons.2 ⟨ty18, ?_⟩
  refine List.forall_mem_cons.2 ⟨ty19, ?_⟩
  refine List.forall_mem_cons.2 ⟨ty21, ?_⟩
  refine List.forall_mem_cons.2 ⟨ty22, ?_⟩
  refine List.forall_mem_cons.2 ⟨ty23, ?_⟩
  refine List.forall_mem_cons.2 ⟨ty24, ?_⟩
  refine List.forall_mem_cons.2 ⟨ty25, ?_⟩
  refine List.forall_mem_cons.2 ⟨ty26, ?_⟩
  refine List.forall_mem_cons.2 ⟨ty27, ?_⟩
  refine List.forall_mem_cons.2 ⟨ty28, ?_⟩
  refine List.forall_mem_cons.2 ⟨ty29, ?_⟩
  refine List.forall_mem_cons.2 ⟨ty30, ?_⟩
  refine List.forall_mem_cons.2 ⟨ty31, ?_⟩
  refine List.forall_mem_cons.2 ⟨ty36, ?_⟩
  refine List.forall_mem_cons.2 ⟨ty40, ?_⟩
  refine List.forall_mem_cons.2 ⟨ty43, ?_⟩
  refine List.forall_mem_cons.2 ⟨ty49, ?_⟩
  refine List.forall_mem_cons.2 ⟨ty50, ?_⟩
  refine List.forall_mem_cons.2 ⟨ty51, ?_⟩
  refine List.forall_mem_cons.2 ⟨ty52, ?_⟩
  refine List.forall_mem_cons.2 ⟨ty53, ?_⟩
  refine List.forall_mem_cons.2 ⟨ty54, ?_⟩
  refine List.forall_mem_cons.2 ⟨ty55, ?_⟩
  refine List.forall_mem_cons.2 ⟨ty56, ?_⟩
  refine List.forall_mem_cons.2 ⟨ty57, ?_⟩
  refine List.forall_mem_cons.2 ⟨ty58, ?_⟩
  refine List.forall_mem_cons.2 ⟨ty61, ?_⟩
  refine List.forall_mem_cons.2 ⟨ty62, ?_⟩
  refine List.forall_mem_cons.2 ⟨ty65, ?_⟩
  refine List.forall_mem_cons.2 ⟨ty66, ?_⟩
  refine List.forall_mem_cons.2 ⟨ty79, ?_⟩
  refine List.forall_mem_cons.2 ⟨ty80, ?_⟩
  refine List.forall_mem_cons.2 ⟨ty81, ?_⟩
  refine List.forall_mem_cons.2 ⟨ty82, ?_⟩
  refine List.forall_mem_cons.2 ⟨ty85, ?_⟩
  refine List.forall_mem_cons.2 ⟨ty86, ?_⟩
  refine List.forall_mem_cons.2 ⟨ty87, ?_⟩
  refine List.forall_mem_cons.2 ⟨ty100, ?_⟩
  refine List.forall_mem_cons.2 ⟨ty101, ?_⟩
  refine List.forall_mem_cons.2 ⟨ty112, ?_⟩
  refine List.forall_mem_cons.2 ⟨ty116, ?_⟩
  refine List.forall_mem_cons.2 ⟨ty127, ?_⟩
  refine List.forall_mem_cons.2 ⟨ty130, ?_⟩
  refine List.forall_mem_cons.2 ⟨ty131, ?_⟩
  refine List.forall_mem_cons.2 ⟨ty132, ?_⟩
  refine List.forall_mem_cons.2 ⟨ty133, ?_⟩
  refine List.forall_mem_cons.2 ⟨ty134, ?_⟩
  refine List.forall_mem_cons.2 ⟨ty143, ?_⟩
  refine List.forall_mem_cons.2 ⟨ty149, ?_⟩
  refine List.forall_mem_cons.2 ⟨ty150, ?_⟩
  refine List.forall_mem_cons.2 ⟨ty151, ?_⟩
  refine List.forall_mem_cons.2 ⟨ty152, ?_⟩
  refine List.forall_mem_cons.2 ⟨ty153, ?_⟩
  refine List.forall_mem_cons.2 ⟨ty154, ?_⟩
  refine List.forall_mem_cons.2 ⟨ty155, ?_⟩
  refine List.forall_mem_cons.2 ⟨ty156, ?_⟩
  refine List.forall_mem_cons.2 ⟨ty157, ?_⟩
  refine List.forall_mem_cons.2 ⟨ty158, ?_⟩
  refine List.forall_mem_cons.2 ⟨ty164, ?_⟩
  refine List.forall_mem_cons.2 ⟨ty169, ?_⟩
  refine List.forall_mem_cons.2 ⟨ty172, ?_⟩
  refine List.forall_mem_cons.2 ⟨ty174, ?_⟩
  refine List.forall_mem_cons.2 ⟨ty175, ?_⟩
  refine List.forall_mem_cons.2 ⟨ty176, ?_⟩
  refine List.forall_mem_cons.2 ⟨ty177, ?_⟩
  refine List.forall_mem_cons.2 ⟨ty178, ?_⟩
  refine List.forall_mem_cons.2 ⟨ty181, ?_⟩
  refine List.forall_mem_cons.2 ⟨ty182, ?_⟩
  refine List.forall_mem_cons.2 ⟨ty186, ?_⟩
  refine List.forall_mem_cons.2 ⟨ty187, ?_⟩
  refine List.forall_mem_cons.2 ⟨ty188, ?_⟩
  refine List.forall_mem_cons.2 ⟨ty191, ?_⟩
  refine List.forall_mem_cons.2 ⟨ty196, ?_⟩
  refine List.forall_mem_cons.2 ⟨ty204, ?_⟩
  refine List.forall_mem_cons.2 ⟨ty209, ?_⟩
  refine List.forall_mem_cons.2 ⟨ty210, ?_⟩
  refine List.forall_mem_cons.2 ⟨ty212, ?_⟩
  refine List.forall_mem_cons.2 ⟨ty213, ?_⟩
  refine List.forall_mem_cons.2 ⟨ty215, ?_⟩
  refine List.forall_mem_cons.2 ⟨ty216, ?_⟩
  refine List.forall_mem_cons.2 ⟨ty217, ?_⟩
  refine List.forall_mem_cons.2 ⟨ty219, ?_⟩
  refine List.forall_mem_cons.2 ⟨ty220, ?_⟩
  refine List.forall_mem_cons.2 ⟨ty221, ?_⟩
  refine List.forall_mem_cons.2 ⟨ty222, ?_⟩
  refine List.forall_mem_cons.2 ⟨ty223, ?_⟩
  refine List.forall_mem_cons.2 ⟨ty237, ?_⟩
  exact List.forall_mem_nil _
theorem tyOk {T : TypeId} {t : TyI} (h : look T TL = some t) : mkTy Tryd.prog T = some t := tlAll (T, t) (look_mem h)
theorem tg51 : tagsOf Tryd.prog 51 = some [.s, .i, .b] := by kernel_rfl
theorem tg52 : tagsOf Tryd.prog 52 = some [.s, .i, .b] := by kernel_rfl
theorem tg54 : tagsOf Tryd.prog 54 = some [.i, .i, .i, .s] := by kernel_rfl
theorem tg55 : tagsOf Tryd.prog 55 = some [.i, .i, .i, .s] := by kernel_rfl
theorem tg61 : tagsOf Tryd.prog 61 = some [.i, .i, .i, .s] := by kernel_rfl
theorem tg62 : tagsOf Tryd.prog 62 = some [.i, .i, .i, .s] := by kernel_rfl
theorem tg65 : tagsOf Tryd.prog 65 = some [.i, .i] := by kernel_rfl
theorem tg66 : tagsOf Tryd.prog 66 = some [.i, .i] := by kernel_rfl
theorem tg100 : tagsOf Tryd.prog 100 = some [.i, .s, .i, .i] := by kernel_rfl
theorem tg101 : tagsOf Tryd.prog 101 = some [.i, .s, .i, .i] := by kernel_rfl
theorem tg130 : tagsOf Tryd.prog 130 = some [.s, .i] := by kernel_rfl
theorem tg131 : tagsOf Tryd.prog 131 = some [.s, .i] := by kernel_rfl
theorem tg155 : tagsOf Tryd.prog 155 = some [.i] := by kernel_rfl
theorem tg156 : tagsOf Tryd.prog 156 = some [.i] := by kernel_rfl
theorem tg175 : tagsOf Tryd.prog 175 = some [.i, .i] := by kernel_rfl
theorem tg176 : tagsOf Tryd.prog 176 = some [.i, .i] := by kernel_rfl
theorem tg181 : tagsOf Tryd.prog 181 = some [.i, .b] := by kernel_rfl
theorem tg182 : tagsOf Tryd.prog 182 = some [.i, .b] := by kernel_rfl
def TG : List (Nat × List Tag) := [(51, [.s, .i, .b]), (52, [.s, .i, .b]), (54, [.i, .i, .i, .s]), (55, [.i, .i, .i, .s]), (61, [.i, .i, .i, .s]), (62, [.i, .i, .i, .s]), (65, [.i, .i]), (66, [.i, .i]), (100, [.i, .s, .i, .i]), (101, [.i, .s, .i, .i]), (130, [.s, .i]), (131, [.s, .i]), (155, [.i]), (156, [.i]), (175, [.i, .i]), (176, [.i, .i]), (181, [.i, .b]), (182, [.i, .b])]
theorem tgAll : ∀ p ∈ TG, tagsOf Tryd.prog p.1 = some p.2 := by
  unfold TG
  refine List.forall_mem_cons.2 ⟨tg51, ?_⟩
  refine List.forall_mem_cons.2 ⟨tg52, ?_⟩
  refine List.forall_mem_cons.2 ⟨tg54, ?_⟩
  refine List.forall_mem_cons.2 ⟨tg55, ?_⟩
  refine List.forall_mem_cons.2 ⟨tg61, ?_⟩
  refine List.forall_mem_cons.2 ⟨tg62, ?_⟩
  refine List.forall_mem_cons.2 ⟨tg65, ?_⟩
  refine List.forall_mem_cons.2 ⟨tg66, ?_⟩
  refine List.forall_mem_cons.2 ⟨tg100, ?_⟩
  refine List.forall_mem_cons.2 ⟨tg101, ?_⟩
  refine List.forall_mem_cons.2 ⟨tg130, ?_⟩
  refine List.forall_mem_cons.2 ⟨tg131, ?_⟩
  refine List.forall_mem_cons.2 ⟨tg155, ?_⟩
  refine List.forall_mem_cons.2 ⟨tg156, ?_⟩
  refine List.forall_mem_cons.2 ⟨tg175, ?_⟩
  refine List.forall_mem_cons.2 ⟨tg176, ?_⟩
  refine List.forall_mem_cons.2 ⟨tg181, ?_⟩
  refine List.forall_mem_cons.2 ⟨tg182, ?_⟩
  exact List.forall_mem_nil _
theorem tgOk {T : TypeId} {t : List Tag} (h : look T TG = some t) : tagsOf Tryd.prog T = some t := tgAll (T, t) (look_mem h)
theorem mixed : Tryd.prog.follows .mixedOrders = true := by kernel_rfl
end Go.Proofs.YtpaccaojgbfjdaaDoor

