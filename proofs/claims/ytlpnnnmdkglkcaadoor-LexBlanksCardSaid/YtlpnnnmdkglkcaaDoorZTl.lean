/-
  The table of the types that the walks meet. No condition.
-/
import Derived.Test.YtlpnnnmdkglkcaaDoorZB
import Derived.Test.YtlpnnnmdkglkcaaDoorProg
namespace Go.Proofs.YtlpnnnmdkglkcaaDoor
open Go.RowKit
def TL : List (Nat × TyI) := [(2, { size := 1, bytes := 8, row := false, zero := [.sc (.int .i64 0)], kind := .int .i64 }),
  (3, { size := 1, bytes := 8, row := false, zero := [.sc (.int .i64 0)], kind := .int .i64 }),
  (4, { size := 1, bytes := 1, row := false, zero := [.sc (.bool false)], kind := .bool }),
  (5, { size := 1, bytes := 1, row := false, zero := [.sc (.int .u8 0)], kind := .int .u8 }),
  (6, { size := 1, bytes := 1, row := false, zero := [.sc (.int .u8 0)], kind := .int .u8 }),
  (7, { size := 4, bytes := 24, row := true, zero := [.sc (.int .i64 0), .sc (.int .i64 0), .sc (.bool false), .sc (.int .u8 0)], kind := .struct [(0, 1, false), (1, 1, false), (2, 1, false), (3, 1, false)] }),
  (8, { size := 4, bytes := 24, row := true, zero := [.sc (.int .i64 0), .sc (.int .i64 0), .sc (.bool false), .sc (.int .u8 0)], kind := .struct [(0, 1, false), (1, 1, false), (2, 1, false), (3, 1, false)] }),
  (9, { size := 1, bytes := 16, row := false, zero := [.sc (.string .empty)], kind := .str }),
  (10, { size := 1, bytes := 16, row := false, zero := [.sc (.string .empty)], kind := .str }),
  (11, { size := 1, bytes := 16, row := false, zero := [.sc (.string .empty)], kind := .str }),
  (12, { size := 1, bytes := 8, row := false, zero := [.sc (.int .u64 0)], kind := .int .u64 }),
  (13, { size := 2, bytes := 24, row := true, zero := [.sc (.string .empty), .sc (.int .u64 0)], kind := .struct [(0, 1, false), (1, 1, false)] }),
  (14, { size := 2, bytes := 24, row := true, zero := [.sc (.string .empty), .sc (.int .u64 0)], kind := .struct [(0, 1, false), (1, 1, false)] }),
  (15, { size := 1, bytes := 8, row := false, zero := [.sc (.pointer none)], kind := .other }),
  (16, { size := 1, bytes := 8, row := false, zero := [.sc (.pointer none)], kind := .other }),
  (17, { size := 1, bytes := 8, row := false, zero := [.sc (.pointer none)], kind := .other }),
  (18, { size := 1, bytes := 8, row := true, zero := [.sc (.pointer none)], kind := .struct [(0, 1, false)] }),
  (19, { size := 1, bytes := 8, row := true, zero := [.sc (.pointer none)], kind := .struct [(0, 1, false)] }),
  (21, { size := 1, bytes := 4, row := false, zero := [.sc (.int .i32 0)], kind := .int .i32 }),
  (22, { size := 1, bytes := 24, row := false, zero := [.nl], kind := .slice 40 }),
  (23, { size := 1, bytes := 24, row := false, zero := [.nl], kind := .slice 32 }),
  (25, { size := 1, bytes := 8, row := false, zero := [.sc (.int .i64 0)], kind := .int .i64 }),
  (30, { size := 1, bytes := 8, row := false, zero := [.sc (.int .u64 0)], kind := .int .u64 }),
  (31, { size := 4, bytes := 40, row := true, zero := [.sc (.int .i64 0), .sc (.string .empty), .sc (.int .i64 0), .sc (.int .u64 0)], kind := .struct [(0, 1, false), (1, 1, false), (2, 1, false), (3, 1, false)] }),
  (32, { size := 4, bytes := 40, row := true, zero := [.sc (.int .i64 0), .sc (.string .empty), .sc (.int .i64 0), .sc (.int .u64 0)], kind := .struct [(0, 1, false), (1, 1, false), (2, 1, false), (3, 1, false)] }),
  (37, { size := 1, bytes := 24, row := false, zero := [.nl], kind := .slice 3 }),
  (39, { size := 4, bytes := 40, row := true, zero := [.sc (.int .i64 0), .sc (.int .i64 0), .sc (.int .i64 0), .sc (.string .empty)], kind := .struct [(0, 1, false), (1, 1, false), (2, 1, false), (3, 1, false)] }),
  (40, { size := 4, bytes := 40, row := true, zero := [.sc (.int .i64 0), .sc (.int .i64 0), .sc (.int .i64 0), .sc (.string .empty)], kind := .struct [(0, 1, false), (1, 1, false), (2, 1, false), (3, 1, false)] }),
  (43, { size := 1, bytes := 24, row := false, zero := [.nl], kind := .slice 9 }),
  (45, { size := 1, bytes := 24, row := false, zero := [.nl], kind := .slice 25 }),
  (49, { size := 4, bytes := 40, row := true, zero := [.sc (.int .i64 0), .sc (.int .i64 0), .sc (.int .u64 0), .sc (.string .empty)], kind := .struct [(0, 1, false), (1, 1, false), (2, 1, false), (3, 1, false)] }),
  (50, { size := 4, bytes := 40, row := true, zero := [.sc (.int .i64 0), .sc (.int .i64 0), .sc (.int .u64 0), .sc (.string .empty)], kind := .struct [(0, 1, false), (1, 1, false), (2, 1, false), (3, 1, false)] }),
  (51, { size := 1, bytes := 24, row := false, zero := [.nl], kind := .slice 53 }),
  (52, { size := 7, bytes := 88, row := true, zero := [.sc (.int .i64 0), .sc (.int .i64 0), .sc (.int .i64 0), .sc (.int .u64 0), .sc (.string .empty), .sc (.string .empty), .nl], kind := .struct [(0, 1, false), (1, 4, true), (5, 1, false), (6, 1, false)] }),
  (53, { size := 7, bytes := 88, row := true, zero := [.sc (.int .i64 0), .sc (.int .i64 0), .sc (.int .i64 0), .sc (.int .u64 0), .sc (.string .empty), .sc (.string .empty), .nl], kind := .struct [(0, 1, false), (1, 4, true), (5, 1, false), (6, 1, false)] }),
  (54, { size := 1, bytes := 24, row := false, zero := [.nl], kind := .slice 139 }),
  (55, { size := 1, bytes := 8, row := false, zero := [.sc (.pointer none)], kind := .other }),
  (71, { size := 1, bytes := 8, row := false, zero := [.sc (.pointer none)], kind := .other }),
  (72, { size := 2, bytes := 24, row := true, zero := [.sc (.string .empty), .sc (.int .i64 0)], kind := .struct [(0, 1, false), (1, 1, false)] }),
  (73, { size := 2, bytes := 24, row := true, zero := [.sc (.string .empty), .sc (.int .i64 0)], kind := .struct [(0, 1, false), (1, 1, false)] }),
  (82, { size := 3, bytes := 56, row := true, zero := [.nl, .sc (.int .i64 0), .nl], kind := .struct [(0, 1, false), (1, 1, false), (2, 1, false)] }),
  (83, { size := 3, bytes := 56, row := true, zero := [.nl, .sc (.int .i64 0), .nl], kind := .struct [(0, 1, false), (1, 1, false), (2, 1, false)] }),
  (85, { size := 1, bytes := 8, row := false, zero := [.sc (.pointer none)], kind := .other }),
  (86, { size := 2, bytes := 32, row := true, zero := [.nl, .sc (.int .i64 0)], kind := .struct [(0, 1, false), (1, 1, false)] }),
  (87, { size := 2, bytes := 32, row := true, zero := [.nl, .sc (.int .i64 0)], kind := .struct [(0, 1, false), (1, 1, false)] }),
  (88, { size := 2, bytes := 16, row := true, zero := [.sc (.int .i64 0), .sc (.int .i64 0)], kind := .struct [(0, 1, false), (1, 1, false)] }),
  (89, { size := 2, bytes := 16, row := true, zero := [.sc (.int .i64 0), .sc (.int .i64 0)], kind := .struct [(0, 1, false), (1, 1, false)] }),
  (100, { size := 256, bytes := 256, row := true, zero := List.replicate 256 (.sc (.int .u8 0)), kind := .array 256 5 1 false }),
  (101, { size := 2, bytes := 2, row := true, zero := [.sc (.int .u8 0), .sc (.int .u8 0)], kind := .struct [(0, 1, false), (1, 1, false)] }),
  (102, { size := 2, bytes := 2, row := true, zero := [.sc (.int .u8 0), .sc (.int .u8 0)], kind := .struct [(0, 1, false), (1, 1, false)] }),
  (103, { size := 32, bytes := 32, row := true, zero := List.replicate 32 (.sc (.int .u8 0)), kind := .array 16 102 2 true }),
  (104, { size := 1, bytes := 8, row := false, zero := [.sc (.int .u64 0)], kind := .int .u64 }),
  (105, { size := 1, bytes := 8, row := false, zero := [.sc (.float .f64 0)], kind := .other }),
  (122, { size := 1, bytes := 8, row := false, zero := [.sc (.pointer none)], kind := .other }),
  (123, { size := 1, bytes := 24, row := false, zero := [.nl], kind := .slice 5 }),
  (124, { size := 2, bytes := 32, row := true, zero := [.sc (.pointer none), .nl], kind := .struct [(0, 1, false), (1, 1, false)] }),
  (125, { size := 2, bytes := 32, row := true, zero := [.sc (.pointer none), .nl], kind := .struct [(0, 1, false), (1, 1, false)] }),
  (128, { size := 1, bytes := 16, row := false, zero := [.sc .nilIface], kind := .other }),
  (138, { size := 3, bytes := 32, row := true, zero := [.sc (.string .empty), .sc (.int .i64 0), .sc (.bool false)], kind := .struct [(0, 1, false), (1, 1, false), (2, 1, false)] }),
  (139, { size := 3, bytes := 32, row := true, zero := [.sc (.string .empty), .sc (.int .i64 0), .sc (.bool false)], kind := .struct [(0, 1, false), (1, 1, false), (2, 1, false)] }),
  (145, { size := 24, bytes := 24, row := true, zero := List.replicate 24 (.sc (.int .u8 0)), kind := .array 24 5 1 false }),
  (150, { size := 1, bytes := 4, row := false, zero := [.sc (.int .u32 0)], kind := .int .u32 }),
  (155, { size := 1, bytes := 8, row := false, zero := [.sc (.pointer none)], kind := .other }),
  (159, { size := 20, bytes := 160, row := true, zero := List.replicate 20 (.sc (.int .u64 0)), kind := .array 20 30 1 false }),
  (160, { size := 65, bytes := 65, row := true, zero := List.replicate 65 (.sc (.int .u8 0)), kind := .array 65 5 1 false }),
  (163, { size := 1, bytes := 8, row := false, zero := [.sc (.pointer none)], kind := .other }),
  (169, { size := 32, bytes := 32, row := true, zero := List.replicate 32 (.sc (.int .u8 0)), kind := .array 32 5 1 false }),
  (170, { size := 64, bytes := 64, row := true, zero := List.replicate 64 (.sc (.int .u8 0)), kind := .array 64 5 1 false }),
  (172, { size := 4, bytes := 40, row := true, zero := [.sc (.pointer none), .sc (.pointer none), .sc (.pointer none), .sc (.string .empty)], kind := .struct [(0, 1, false), (1, 1, false), (2, 1, false), (3, 1, false)] }),
  (173, { size := 4, bytes := 40, row := true, zero := [.sc (.pointer none), .sc (.pointer none), .sc (.pointer none), .sc (.string .empty)], kind := .struct [(0, 1, false), (1, 1, false), (2, 1, false), (3, 1, false)] }),
  (175, { size := 0, bytes := 0, row := true, zero := [], kind := .struct [(0, 0, true)] }),
  (176, { size := 0, bytes := 0, row := true, zero := [], kind := .struct [(0, 0, true)] }),
  (177, { size := 1, bytes := 1, row := false, zero := [.sc (.int .u8 0)], kind := .int .u8 }),
  (178, { size := 1, bytes := 1, row := false, zero := [.sc (.int .u8 0)], kind := .int .u8 }),
  (180, { size := 1, bytes := 4, row := false, zero := [.sc (.int .i32 0)], kind := .int .i32 }),
  (181, { size := 1, bytes := 4, row := false, zero := [.sc (.int .i32 0)], kind := .int .i32 }),
  (182, { size := 11, bytes := 48, row := true, zero := [.sc (.int .u64 0), .sc (.int .u64 0), .sc (.int .u32 0), .sc (.int .u8 0), .sc (.int .u8 0), .sc (.int .u8 0), .sc (.int .u8 0), .sc .nilFunc, .sc (.pointer none), .sc (.int .i32 0), .sc (.int .i32 0)], kind := .struct [(0, 1, false), (1, 1, false), (2, 1, false), (3, 1, false), (4, 1, false), (5, 1, false), (6, 1, false), (7, 1, false), (8, 1, false), (9, 1, false), (10, 1, false)] }),
  (183, { size := 11, bytes := 48, row := true, zero := [.sc (.int .u64 0), .sc (.int .u64 0), .sc (.int .u32 0), .sc (.int .u8 0), .sc (.int .u8 0), .sc (.int .u8 0), .sc (.int .u8 0), .sc .nilFunc, .sc (.pointer none), .sc (.int .i32 0), .sc (.int .i32 0)], kind := .struct [(0, 1, false), (1, 1, false), (2, 1, false), (3, 1, false), (4, 1, false), (5, 1, false), (6, 1, false), (7, 1, false), (8, 1, false), (9, 1, false), (10, 1, false)] })]
theorem tlAll : ∀ p ∈ TL, mkTy Tryd.prog p.1 = some p.2 := by
  unfold TL
  repeat refine List.forall_mem_cons.2 ⟨by kernel_rfl, ?_⟩
  exact List.forall_mem_nil _
theorem tyOk {T : TypeId} {t : TyI} (h : look T TL = some t) : mkTy Tryd.prog T = some t := tlAll (T, t) (look_mem h)
def TG : List (Nat × List Tag) := [(31, [.i, .s, .i, .i]), (32, [.i, .s, .i, .i]), (39, [.i, .i, .i, .s]), (40, [.i, .i, .i, .s]), (49, [.i, .i, .i, .s]), (50, [.i, .i, .i, .s]), (72, [.s, .i]), (73, [.s, .i]), (88, [.i, .i]), (89, [.i, .i]), (101, [.i, .i]), (102, [.i, .i]), (138, [.s, .i, .b]), (139, [.s, .i, .b])]
theorem tgAll : ∀ p ∈ TG, tagsOf Tryd.prog p.1 = some p.2 := by
  unfold TG
  repeat refine List.forall_mem_cons.2 ⟨by kernel_rfl, ?_⟩
  exact List.forall_mem_nil _
theorem tgOk {T : TypeId} {t : List Tag} (h : look T TG = some t) : tagsOf Tryd.prog T = some t := tgAll (T, t) (look_mem h)
theorem mixed : Tryd.prog.follows .mixedOrders = true := by kernel_rfl
end Go.Proofs.YtlpnnnmdkglkcaaDoor

