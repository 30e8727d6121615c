/-
  The table of the types that the walks meet. No condition.
-/
import Derived.Test.YtclhmdobhlalmaaDoorZB
import Derived.Test.YtclhmdobhlalmaaDoorProg
namespace Go.Proofs.YtclhmdobhlalmaaDoor
open Go.RowKit
theorem ty2 : mkTy Tryd.prog 2 = some { size := 1, bytes := 8, row := false, zero := [.sc (.int .i64 0)], kind := .int .i64 } := by kernel_rfl
theorem ty3 : mkTy Tryd.prog 3 = some { size := 1, bytes := 8, row := false, zero := [.sc (.int .i64 0)], kind := .int .i64 } := by kernel_rfl
theorem ty4 : mkTy Tryd.prog 4 = some { size := 1, bytes := 1, row := false, zero := [.sc (.bool false)], kind := .bool } := by kernel_rfl
theorem ty5 : mkTy Tryd.prog 5 = some { size := 1, bytes := 1, row := false, zero := [.sc (.int .u8 0)], kind := .int .u8 } := by kernel_rfl
theorem ty6 : mkTy Tryd.prog 6 = some { size := 1, bytes := 1, row := false, zero := [.sc (.int .u8 0)], kind := .int .u8 } := by kernel_rfl
theorem ty7 : mkTy Tryd.prog 7 = some { size := 4, bytes := 24, row := true, zero := [.sc (.int .i64 0), .sc (.int .i64 0), .sc (.bool false), .sc (.int .u8 0)], kind := .struct [(0, 1, false), (1, 1, false), (2, 1, false), (3, 1, false)] } := by kernel_rfl
theorem ty8 : mkTy Tryd.prog 8 = some { size := 4, bytes := 24, row := true, zero := [.sc (.int .i64 0), .sc (.int .i64 0), .sc (.bool false), .sc (.int .u8 0)], kind := .struct [(0, 1, false), (1, 1, false), (2, 1, false), (3, 1, false)] } := by kernel_rfl
theorem ty9 : mkTy Tryd.prog 9 = some { size := 1, bytes := 16, row := false, zero := [.sc (.string .empty)], kind := .str } := by kernel_rfl
theorem ty10 : mkTy Tryd.prog 10 = some { size := 1, bytes := 16, row := false, zero := [.sc (.string .empty)], kind := .str } := by kernel_rfl
theorem ty11 : mkTy Tryd.prog 11 = some { size := 1, bytes := 16, row := false, zero := [.sc (.string .empty)], kind := .str } := by kernel_rfl
theorem ty12 : mkTy Tryd.prog 12 = some { size := 1, bytes := 8, row := false, zero := [.sc (.int .u64 0)], kind := .int .u64 } := by kernel_rfl
theorem ty13 : mkTy Tryd.prog 13 = some { size := 2, bytes := 24, row := true, zero := [.sc (.string .empty), .sc (.int .u64 0)], kind := .struct [(0, 1, false), (1, 1, false)] } := by kernel_rfl
theorem ty14 : mkTy Tryd.prog 14 = some { size := 2, bytes := 24, row := true, zero := [.sc (.string .empty), .sc (.int .u64 0)], kind := .struct [(0, 1, false), (1, 1, false)] } := by kernel_rfl
theorem ty15 : mkTy Tryd.prog 15 = some { size := 1, bytes := 8, row := false, zero := [.sc (.pointer none)], kind := .other } := by kernel_rfl
theorem ty16 : mkTy Tryd.prog 16 = some { size := 1, bytes := 8, row := false, zero := [.sc (.pointer none)], kind := .other } := by kernel_rfl
theorem ty17 : mkTy Tryd.prog 17 = some { size := 1, bytes := 8, row := false, zero := [.sc (.pointer none)], kind := .other } := by kernel_rfl
theorem ty18 : mkTy Tryd.prog 18 = some { size := 1, bytes := 8, row := true, zero := [.sc (.pointer none)], kind := .struct [(0, 1, false)] } := by kernel_rfl
theorem ty19 : mkTy Tryd.prog 19 = some { size := 1, bytes := 8, row := true, zero := [.sc (.pointer none)], kind := .struct [(0, 1, false)] } := by kernel_rfl
theorem ty21 : mkTy Tryd.prog 21 = some { size := 1, bytes := 4, row := false, zero := [.sc (.int .i32 0)], kind := .int .i32 } := by kernel_rfl
theorem ty22 : mkTy Tryd.prog 22 = some { size := 4, bytes := 40, row := true, zero := [.sc (.int .i64 0), .sc (.int .i64 0), .sc (.int .i64 0), .sc (.string .empty)], kind := .struct [(0, 1, false), (1, 1, false), (2, 1, false), (3, 1, false)] } := by kernel_rfl
theorem ty23 : mkTy Tryd.prog 23 = some { size := 4, bytes := 40, row := true, zero := [.sc (.int .i64 0), .sc (.int .i64 0), .sc (.int .i64 0), .sc (.string .empty)], kind := .struct [(0, 1, false), (1, 1, false), (2, 1, false), (3, 1, false)] } := by kernel_rfl
theorem ty24 : mkTy Tryd.prog 24 = some { size := 1, bytes := 8, row := false, zero := [.sc (.int .u64 0)], kind := .int .u64 } := by kernel_rfl
theorem ty25 : mkTy Tryd.prog 25 = some { size := 4, bytes := 40, row := true, zero := [.sc (.int .i64 0), .sc (.int .i64 0), .sc (.int .u64 0), .sc (.string .empty)], kind := .struct [(0, 1, false), (1, 1, false), (2, 1, false), (3, 1, false)] } := by kernel_rfl
theorem ty26 : mkTy Tryd.prog 26 = some { size := 4, bytes := 40, row := true, zero := [.sc (.int .i64 0), .sc (.int .i64 0), .sc (.int .u64 0), .sc (.string .empty)], kind := .struct [(0, 1, false), (1, 1, false), (2, 1, false), (3, 1, false)] } := by kernel_rfl
theorem ty28 : mkTy Tryd.prog 28 = some { size := 1, bytes := 8, row := false, zero := [.sc (.int .i64 0)], kind := .int .i64 } := by kernel_rfl
theorem ty38 : mkTy Tryd.prog 38 = some { size := 1, bytes := 24, row := false, zero := [.nl], kind := .slice 23 } := by kernel_rfl
theorem ty39 : mkTy Tryd.prog 39 = some { size := 1, bytes := 24, row := false, zero := [.nl], kind := .slice 26 } := by kernel_rfl
theorem ty41 : mkTy Tryd.prog 41 = some { size := 1, bytes := 24, row := false, zero := [.nl], kind := .slice 5 } := by kernel_rfl
theorem ty54 : mkTy Tryd.prog 54 = some { size := 1, bytes := 24, row := false, zero := [.nl], kind := .slice 39 } := by kernel_rfl
theorem ty55 : mkTy Tryd.prog 55 = some { size := 3, bytes := 40, row := true, zero := [.sc (.int .i64 0), .sc (.int .i64 0), .nl], kind := .struct [(0, 1, false), (1, 1, false), (2, 1, false)] } := by kernel_rfl
theorem ty56 : mkTy Tryd.prog 56 = some { size := 3, bytes := 40, row := true, zero := [.sc (.int .i64 0), .sc (.int .i64 0), .nl], kind := .struct [(0, 1, false), (1, 1, false), (2, 1, false)] } := by kernel_rfl
theorem ty65 : mkTy Tryd.prog 65 = some { size := 1, bytes := 8, row := false, zero := [.sc (.int .u64 0)], kind := .int .u64 } := by kernel_rfl
theorem ty78 : mkTy Tryd.prog 78 = some { size := 1, bytes := 24, row := false, zero := [.nl], kind := .slice 9 } := by kernel_rfl
theorem ty81 : mkTy Tryd.prog 81 = some { size := 1, bytes := 8, row := false, zero := [.sc (.float .f64 0)], kind := .other } := by kernel_rfl
theorem ty92 : mkTy Tryd.prog 92 = some { size := 256, bytes := 256, row := true, zero := List.replicate 256 (.sc (.int .u8 0)), kind := .array 256 5 1 false } := by kernel_rfl
theorem ty93 : mkTy Tryd.prog 93 = some { size := 2, bytes := 2, row := true, zero := [.sc (.int .u8 0), .sc (.int .u8 0)], kind := .struct [(0, 1, false), (1, 1, false)] } := by kernel_rfl
theorem ty94 : mkTy Tryd.prog 94 = some { size := 2, bytes := 2, row := true, zero := [.sc (.int .u8 0), .sc (.int .u8 0)], kind := .struct [(0, 1, false), (1, 1, false)] } := by kernel_rfl
theorem ty95 : mkTy Tryd.prog 95 = some { size := 32, bytes := 32, row := true, zero := List.replicate 32 (.sc (.int .u8 0)), kind := .array 16 94 2 true } := by kernel_rfl
theorem ty98 : mkTy Tryd.prog 98 = some { size := 4, bytes := 40, row := true, zero := [.sc (.pointer none), .sc (.pointer none), .sc (.pointer none), .sc (.string .empty)], kind := .struct [(0, 1, false), (1, 1, false), (2, 1, false), (3, 1, false)] } := by kernel_rfl
theorem ty99 : mkTy Tryd.prog 99 = some { size := 4, bytes := 40, row := true, zero := [.sc (.pointer none), .sc (.pointer none), .sc (.pointer none), .sc (.string .empty)], kind := .struct [(0, 1, false), (1, 1, false), (2, 1, false), (3, 1, false)] } := by kernel_rfl
theorem ty104 : mkTy Tryd.prog 104 = some { size := 1, bytes := 4, row := false, zero := [.sc (.int .u32 0)], kind := .int .u32 } := by kernel_rfl
theorem ty105 : mkTy Tryd.prog 105 = some { size := 1, bytes := 1, row := false, zero := [.sc (.int .u8 0)], kind := .int .u8 } := by kernel_rfl
theorem ty106 : mkTy Tryd.prog 106 = some { size := 1, bytes := 1, row := false, zero := [.sc (.int .u8 0)], kind := .int .u8 } := by kernel_rfl
theorem ty108 : mkTy Tryd.prog 108 = some { size := 1, bytes := 8, row := false, zero := [.sc (.pointer none)], kind := .other } := by kernel_rfl
theorem ty109 : mkTy Tryd.prog 109 = some { size := 1, bytes := 4, row := false, zero := [.sc (.int .i32 0)], kind := .int .i32 } := by kernel_rfl
theorem ty110 : mkTy Tryd.prog 110 = some { size := 1, bytes := 4, row := false, zero := [.sc (.int .i32 0)], kind := .int .i32 } := by kernel_rfl
theorem ty111 : mkTy Tryd.prog 111 = some { size := 11, bytes := 48, row := true, zero := [.sc (.int .u64 0), .sc (.int .u64 0), .sc (.int .u32 0), .sc (.int .u8 0), .sc (.int .u8 0), .sc (.int .u8 0), .sc (.int .u8 0), .sc .nilFunc, .sc (.pointer none), .sc (.int .i32 0), .sc (.int .i32 0)], kind := .struct [(0, 1, false), (1, 1, false), (2, 1, false), (3, 1, false), (4, 1, false), (5, 1, false), (6, 1, false), (7, 1, false), (8, 1, false), (9, 1, false), (10, 1, false)] } := by kernel_rfl
theorem ty112 : mkTy Tryd.prog 112 = some { size := 11, bytes := 48, row := true, zero := [.sc (.int .u64 0), .sc (.int .u64 0), .sc (.int .u32 0), .sc (.int .u8 0), .sc (.int .u8 0), .sc (.int .u8 0), .sc (.int .u8 0), .sc .nilFunc, .sc (.pointer none), .sc (.int .i32 0), .sc (.int .i32 0)], kind := .struct [(0, 1, false), (1, 1, false), (2, 1, false), (3, 1, false), (4, 1, false), (5, 1, false), (6, 1, false), (7, 1, false), (8, 1, false), (9, 1, false), (10, 1, false)] } := by kernel_rfl
theorem ty113 : mkTy Tryd.prog 113 = some { size := 1, bytes := 8, row := false, zero := [.sc (.pointer none)], kind := .other } := by kernel_rfl
def TL : List (Nat × TyI) := [(2, { size := 1, bytes := 8, row := false, zero := [.sc (.int .i64 0)], kind := .int .i64 }),
  (3, { size := 1, bytes := 8, row := false, zero := [.sc (.int .i64 0)], kind := .int .i64 }),
  (4, { size := 1, bytes := 1, row := false, zero := [.sc (.bool false)], kind := .bool }),
  (5, { size := 1, bytes := 1, row := false, zero := [.sc (.int .u8 0)], kind := .int .u8 }),
  (6, { size := 1, bytes := 1, row := false, zero := [.sc (.int .u8 0)], kind := .int .u8 }),
  (7, { size := 4, bytes := 24, row := true, zero := [.sc (.int .i64 0), .sc (.int .i64 0), .sc (.bool false), .sc (.int .u8 0)], kind := .struct [(0, 1, false), (1, 1, false), (2, 1, false), (3, 1, false)] }),
  (8, { size := 4, bytes := 24, row := true, zero := [.sc (.int .i64 0), .sc (.int .i64 0), .sc (.bool false), .sc (.int .u8 0)], kind := .struct [(0, 1, false), (1, 1, false), (2, 1, false), (3, 1, false)] }),
  (9, { size := 1, bytes := 16, row := false, zero := [.sc (.string .empty)], kind := .str }),
  (10, { size := 1, bytes := 16, row := false, zero := [.sc (.string .empty)], kind := .str }),
  (11, { size := 1, bytes := 16, row := false, zero := [.sc (.string .empty)], kind := .str }),
  (12, { size := 1, bytes := 8, row := false, zero := [.sc (.int .u64 0)], kind := .int .u64 }),
  (13, { size := 2, bytes := 24, row := true, zero := [.sc (.string .empty), .sc (.int .u64 0)], kind := .struct [(0, 1, false), (1, 1, false)] }),
  (14, { size := 2, bytes := 24, row := true, zero := [.sc (.string .empty), .sc (.int .u64 0)], kind := .struct [(0, 1, false), (1, 1, false)] }),
  (15, { size := 1, bytes := 8, row := false, zero := [.sc (.pointer none)], kind := .other }),
  (16, { size := 1, bytes := 8, row := false, zero := [.sc (.pointer none)], kind := .other }),
  (17, { size := 1, bytes := 8, row := false, zero := [.sc (.pointer none)], kind := .other }),
  (18, { size := 1, bytes := 8, row := true, zero := [.sc (.pointer none)], kind := .struct [(0, 1, false)] }),
  (19, { size := 1, bytes := 8, row := true, zero := [.sc (.pointer none)], kind := .struct [(0, 1, false)] }),
  (21, { size := 1, bytes := 4, row := false, zero := [.sc (.int .i32 0)], kind := .int .i32 }),
  (22, { size := 4, bytes := 40, row := true, zero := [.sc (.int .i64 0), .sc (.int .i64 0), .sc (.int .i64 0), .sc (.string .empty)], kind := .struct [(0, 1, false), (1, 1, false), (2, 1, false), (3, 1, false)] }),
  (23, { size := 4, bytes := 40, row := true, zero := [.sc (.int .i64 0), .sc (.int .i64 0), .sc (.int .i64 0), .sc (.string .empty)], kind := .struct [(0, 1, false), (1, 1, false), (2, 1, false), (3, 1, false)] }),
  (24, { size := 1, bytes := 8, row := false, zero := [.sc (.int .u64 0)], kind := .int .u64 }),
  (25, { size := 4, bytes := 40, row := true, zero := [.sc (.int .i64 0), .sc (.int .i64 0), .sc (.int .u64 0), .sc (.string .empty)], kind := .struct [(0, 1, false), (1, 1, false), (2, 1, false), (3, 1, false)] }),
  (26, { size := 4, bytes := 40, row := true, zero := [.sc (.int .i64 0), .sc (.int .i64 0), .sc (.int .u64 0), .sc (.string .empty)], kind := .struct [(0, 1, false), (1, 1, false), (2, 1, false), (3, 1, false)] }),
  (28, { size := 1, bytes := 8, row := false, zero := [.sc (.int .i64 0)], kind := .int .i64 }),
  (38, { size := 1, bytes := 24, row := false, zero := [.nl], kind := .slice 23 }),
  (39, { size := 1, bytes := 24, row := false, zero := [.nl], kind := .slice 26 }),
  (41, { size := 1, bytes := 24, row := false, zero := [.nl], kind := .slice 5 }),
  (54, { size := 1, bytes := 24, row := false, zero := [.nl], kind := .slice 39 }),
  (55, { size := 3, bytes := 40, row := true, zero := [.sc (.int .i64 0), .sc (.int .i64 0), .nl], kind := .struct [(0, 1, false), (1, 1, false), (2, 1, false)] }),
  (56, { size := 3, bytes := 40, row := true, zero := [.sc (.int .i64 0), .sc (.int .i64 0), .nl], kind := .struct [(0, 1, false), (1, 1, false), (2, 1, false)] }),
  (65, { size := 1, bytes := 8, row := false, zero := [.sc (.int .u64 0)], kind := .int .u64 }),
  (78, { size := 1, bytes := 24, row := false, zero := [.nl], kind := .slice 9 }),
  (81, { size := 1, bytes := 8, row := false, zero := [.sc (.float .f64 0)], kind := .other }),
  (92, { size := 256, bytes := 256, row := true, zero := List.replicate 256 (.sc (.int .u8 0)), kind := .array 256 5 1 false }),
  (93, { size := 2, bytes := 2, row := true, zero := [.sc (.int .u8 0), .sc (.int .u8 0)], kind := .struct [(0, 1, false), (1, 1, false)] }),
  (94, { size := 2, bytes := 2, row := true, zero := [.sc (.int .u8 0), .sc (.int .u8 0)], kind := .struct [(0, 1, false), (1, 1, false)] }),
  (95, { size := 32, bytes := 32, row := true, zero := List.replicate 32 (.sc (.int .u8 0)), kind := .array 16 94 2 true }),
  (98, { size := 4, bytes := 40, row := true, zero := [.sc (.pointer none), .sc (.pointer none), .sc (.pointer none), .sc (.string .empty)], kind := .struct [(0, 1, false), (1, 1, false), (2, 1, false), (3, 1, false)] }),
  (99, { size := 4, bytes := 40, row := true, zero := [.sc (.pointer none), .sc (.pointer none), .sc (.pointer none), .sc (.string .empty)], kind := .struct [(0, 1, false), (1, 1, false), (2, 1, false), (3, 1, false)] }),
  (104, { size := 1, bytes := 4, row := false, zero := [.sc (.int .u32 0)], kind := .int .u32 }),
  (105, { size := 1, bytes := 1, row := false, zero := [.sc (.int .u8 0)], kind := .int .u8 }),
  (106, { size := 1, bytes := 1, row := false, zero := [.sc (.int .u8 0)], kind := .int .u8 }),
  (108, { size := 1, bytes := 8, row := false, zero := [.sc (.pointer none)], kind := .other }),
  (109, { size := 1, bytes := 4, row := false, zero := [.sc (.int .i32 0)], kind := .int .i32 }),
  (110, { size := 1, bytes := 4, row := false, zero := [.sc (.int .i32 0)], kind := .int .i32 }),
  (111, { size := 11, bytes := 48, row := true, zero := [.sc (.int .u64 0), .sc (.int .u64 0), .sc (.int .u32 0), .sc (.int .u8 0), .sc (.int .u8 0), .sc (.int .u8 0), .sc (.int .u8 0), .sc .nilFunc, .sc (.pointer none), .sc (.int .i32 0), .sc (.int .i32 0)], kind := .struct [(0, 1, false), (1, 1, false), (2, 1, false), (3, 1, false), (4, 1, false), (5, 1, false), (6, 1, false), (7, 1, false), (8, 1, false), (9, 1, false), (10, 1, false)] }),
  (112, { size := 11, bytes := 48, row := true, zero := [.sc (.int .u64 0), .sc (.int .u64 0), .sc (.int .u32 0), .sc (.int .u8 0), .sc (.int .u8 0), .sc (.int .u8 0), .sc (.int .u8 0), .sc .nilFunc, .sc (.pointer none), .sc (.int .i32 0), .sc (.int .i32 0)], kind := .struct [(0, 1, false), (1, 1, false), (2, 1, false), (3, 1, false), (4, 1, false), (5, 1, false), (6, 1, false), (7, 1, false), (8, 1, false), (9, 1, false), (10, 1, false)] }),
  (113, { size := 1, bytes := 8, row := false, zero := [.sc (.pointer none)], kind := .other })]
theorem tlAll : ∀ p ∈ TL, mkTy Tryd.prog p.1 = some p.2 := by
  unfold TL
  refine List.forall_mem_cons.2 ⟨ty2, ?_⟩
  refine List.forall_mem_cons.2 ⟨ty3, ?_⟩
  refine List.forall_mem_cons.2 ⟨ty4, ?_⟩
  refine List.forall_mem_cons.2 ⟨ty5, ?_⟩
  refine List.forall_mem_cons.2 ⟨ty6, ?_⟩
  refine List.forall_mem_cons.2 ⟨ty7, ?_⟩
  refine List.forall_mem_cons.2 ⟨ty8, ?_⟩
  refine List.forall_mem_cons.2 ⟨ty9, ?_⟩
  refine List.forall_mem_cons.2 ⟨ty10, ?_⟩
  refine List.forall_mem_cons.2 ⟨ty11, ?_⟩
  refine List.forall_mem_cons.2 ⟨ty12, ?_⟩
  refine List.forall_mem_cons.2 ⟨ty13, ?_⟩
  refine List.forall_mem_cons.2 ⟨ty14, ?_⟩
  refine List.forall_mem_cons.2 ⟨ty15, ?_⟩
  refine List.forall_mem_cons.2 ⟨ty16, ?_⟩
  refine List.forall_mem_cons.2 ⟨ty17, ?_⟩
  refine List.forall_mem_cons.2 ⟨ty18, ?_⟩
  refine List.forall_mem_cons.2 ⟨ty19, ?_⟩
  refine List.forall_mem_cons.2 ⟨ty21, ?_⟩
  refine List.forall_mem_cons.2 ⟨ty22, ?_⟩
  refine List.forall_mem_cons.2 ⟨ty23, ?_⟩
  refine List.forall_mem_cons.2 ⟨ty24, ?_⟩
  refine List.forall_mem_cons.2 ⟨ty25, ?_⟩
  refine List.forall_mem_cons.2 ⟨ty26, ?_⟩
  refine List.forall_mem_cons.2 ⟨ty28, ?_⟩
  refine List.forall_mem_cons.2 ⟨ty38, ?_⟩
  refine List.forall_mem_cons.2 ⟨ty39, ?_⟩
  refine List.forall_mem_cons.2 ⟨ty41, ?_⟩
  refine List.forall_mem_cons.2 ⟨ty54, ?_⟩
  refine List.forall_mem_cons.2 ⟨ty55, ?_⟩
  refine List.forall_mem_cons.2 ⟨ty56, ?_⟩
  refine List.forall_mem_cons.2 ⟨ty65, ?_⟩
  refine List.forall_mem_cons.2 ⟨ty78, ?_⟩
  refine List.forall_mem_cons.2 ⟨ty81, ?_⟩
  refine List.forall_mem_cons.2 ⟨ty92, ?_⟩
  refine List.forall_mem_cons.2 ⟨ty93, ?_⟩
  refine List.forall_mem_cons.2 ⟨ty94, ?_⟩
  refine List.forall_mem_cons.2 ⟨ty95, ?_⟩
  refine List.forall_mem_cons.2 ⟨ty98, ?_⟩
  refine List.forall_mem_cons.2 ⟨ty99, ?_⟩
  refine List.forall_mem_cons.2 ⟨ty104, ?_⟩
  refine List.forall_mem_cons.2 ⟨ty105, ?_⟩
  refine List.forall_mem_cons.2 ⟨ty106, ?_⟩
  refine List.forall_mem_cons.2 ⟨ty108, ?_⟩
  refine List.forall_mem_cons.2 ⟨ty109, ?_⟩
  refine List.forall_mem_cons.2 ⟨ty110, ?_⟩
  refine List.forall_mem_cons.2 ⟨ty111, ?_⟩
  refine List.forall_mem_cons.2 ⟨ty112, ?_⟩
  refine List.forall_mem_cons.2 ⟨ty113, ?_⟩
  exact List.forall_mem_nil _
theorem tyOk {T : TypeId} {t : TyI} (h : look T TL = some t) : mkTy Tryd.prog T = some t := tlAll (T, t) (look_mem h)
theorem tg22 : tagsOf Tryd.prog 22 = some [.i, .i, .i, .s] := by kernel_rfl
theorem tg23 : tagsOf Tryd.prog 23 = some [.i, .i, .i, .s] := by kernel_rfl
theorem tg25 : tagsOf Tryd.prog 25 = some [.i, .i, .i, .s] := by kernel_rfl
theorem tg26 : tagsOf Tryd.prog 26 = some [.i, .i, .i, .s] := by kernel_rfl
theorem tg93 : tagsOf Tryd.prog 93 = some [.i, .i] := by kernel_rfl
theorem tg94 : tagsOf Tryd.prog 94 = some [.i, .i] := by kernel_rfl
def TG : List (Nat × List Tag) := [(22, [.i, .i, .i, .s]), (23, [.i, .i, .i, .s]), (25, [.i, .i, .i, .s]), (26, [.i, .i, .i, .s]), (93, [.i, .i]), (94, [.i, .i])]
theorem tgAll : ∀ p ∈ TG, tagsOf Tryd.prog p.1 = some p.2 := by
  unfold TG
  refine List.forall_mem_cons.2 ⟨tg22, ?_⟩
  refine List.forall_mem_cons.2 ⟨tg23, ?_⟩
  refine List.forall_mem_cons.2 ⟨tg25, ?_⟩
  refine List.forall_mem_cons.2 ⟨tg26, ?_⟩
  refine List.forall_mem_cons.2 ⟨tg93, ?_⟩
  refine List.forall_mem_cons.2 ⟨tg94, ?_⟩
  exact List.forall_mem_nil _
theorem tgOk {T : TypeId} {t : List Tag} (h : look T TG = some t) : tagsOf Tryd.prog T = some t := tgAll (T, t) (look_mem h)
theorem mixed : Tryd.prog.follows .mixedOrders = true := by kernel_rfl
end Go.Proofs.YtclhmdobhlalmaaDoor
