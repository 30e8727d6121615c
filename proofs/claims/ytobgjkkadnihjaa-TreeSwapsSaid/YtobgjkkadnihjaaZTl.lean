/-
  The table of the types that the walks meet. No condition.
-/
import Derived.Test.YtobgjkkadnihjaaZB
import Derived.Test.YtobgjkkadnihjaaProg
namespace Go.Proofs.Ytobgjkkadnihjaa
open Go.RowKit
def TL : List (Nat × TyI) := [(2, { size := 1, bytes := 8, row := false, zero := [.sc (.int .i64 0)], kind := .int .i64 }),
  (3, { size := 1, bytes := 8, row := false, zero := [.sc (.int .i64 0)], kind := .int .i64 }),
  (4, { size := 1, bytes := 1, row := false, zero := [.sc (.bool false)], kind := .bool }),
  (5, { size := 1, bytes := 1, row := false, zero := [.sc (.int .u8 0)], kind := .int .u8 }),
  (6, { size := 1, bytes := 1, row := false, zero := [.sc (.int .u8 0)], kind := .int .u8 }),
  (7, { size := 4, bytes := 24, row := true, zero := [.sc (.int .i64 0), .sc (.int .i64 0), .sc (.bool false), .sc (.int .u8 0)], kind := .struct [(0, 1, false), (1, 1, false), (2, 1, false), (3, 1, false)] }),
  (8, { size := 4, bytes := 24, row := true, zero := [.sc (.int .i64 0), .sc (.int .i64 0), .sc (.bool false), .sc (.int .u8 0)], kind := .struct [(0, 1, false), (1, 1, false), (2, 1, false), (3, 1, false)] }),
  (9, { size := 1, bytes := 16, row := false, zero := [.sc (.string .empty)], kind := .str }),
  (10, { size := 1, bytes := 16, row := false, zero := [.sc (.string .empty)], kind := .str }),
  (11, { size := 1, bytes := 16, row := false, zero := [.sc (.string .empty)], kind := .str }),
  (12, { size := 1, bytes := 8, row := false, zero := [.sc (.int .u64 0)], kind := .int .u64 }),
  (13, { size := 2, bytes := 24, row := true, zero := [.sc (.string .empty), .sc (.int .u64 0)], kind := .struct [(0, 1, false), (1, 1, false)] }),
  (14, { size := 2, bytes := 24, row := true, zero := [.sc (.string .empty), .sc (.int .u64 0)], kind := .struct [(0, 1, false), (1, 1, false)] }),
  (15, { size := 1, bytes := 8, row := false, zero := [.sc (.pointer none)], kind := .other }),
  (16, { size := 1, bytes := 8, row := false, zero := [.sc (.pointer none)], kind := .other }),
  (17, { size := 1, bytes := 8, row := false, zero := [.sc (.pointer none)], kind := .other }),
  (18, { size := 1, bytes := 8, row := true, zero := [.sc (.pointer none)], kind := .struct [(0, 1, false)] }),
  (19, { size := 1, bytes := 8, row := true, zero := [.sc (.pointer none)], kind := .struct [(0, 1, false)] }),
  (21, { size := 1, bytes := 4, row := false, zero := [.sc (.int .i32 0)], kind := .int .i32 }),
  (22, { size := 1, bytes := 24, row := false, zero := [.nl], kind := .slice 3 }),
  (24, { size := 1, bytes := 24, row := false, zero := [.nl], kind := .slice 41 }),
  (25, { size := 1, bytes := 24, row := true, zero := [.nl], kind := .struct [(0, 1, false)] }),
  (26, { size := 1, bytes := 24, row := true, zero := [.nl], kind := .struct [(0, 1, false)] }),
  (27, { size := 1, bytes := 8, row := false, zero := [.sc (.int .i64 0)], kind := .int .i64 }),
  (30, { size := 1, bytes := 24, row := false, zero := [.nl], kind := .slice 5 }),
  (35, { size := 1, bytes := 24, row := false, zero := [.nl], kind := .slice 48 }),
  (36, { size := 1, bytes := 24, row := false, zero := [.nl], kind := .slice 50 }),
  (39, { size := 1, bytes := 24, row := false, zero := [.nl], kind := .slice 9 }),
  (40, { size := 3, bytes := 72, row := true, zero := [.nl, .nl, .nl], kind := .struct [(0, 1, false), (1, 1, false), (2, 1, false)] }),
  (41, { size := 3, bytes := 72, row := true, zero := [.nl, .nl, .nl], kind := .struct [(0, 1, false), (1, 1, false), (2, 1, false)] }),
  (47, { size := 4, bytes := 40, row := true, zero := [.sc (.int .i64 0), .sc (.int .i64 0), .sc (.int .i64 0), .sc (.string .empty)], kind := .struct [(0, 1, false), (1, 1, false), (2, 1, false), (3, 1, false)] }),
  (48, { size := 4, bytes := 40, row := true, zero := [.sc (.int .i64 0), .sc (.int .i64 0), .sc (.int .i64 0), .sc (.string .empty)], kind := .struct [(0, 1, false), (1, 1, false), (2, 1, false), (3, 1, false)] }),
  (49, { size := 2, bytes := 24, row := true, zero := [.sc (.string .empty), .sc (.int .i64 0)], kind := .struct [(0, 1, false), (1, 1, false)] }),
  (50, { size := 2, bytes := 24, row := true, zero := [.sc (.string .empty), .sc (.int .i64 0)], kind := .struct [(0, 1, false), (1, 1, false)] }),
  (55, { size := 1, bytes := 8, row := false, zero := [.sc (.pointer none)], kind := .other }),
  (62, { size := 1, bytes := 24, row := false, zero := [.nl], kind := .slice 55 }),
  (63, { size := 3, bytes := 72, row := true, zero := [.nl, .nl, .nl], kind := .struct [(0, 1, false), (1, 1, false), (2, 1, false)] }),
  (64, { size := 3, bytes := 72, row := true, zero := [.nl, .nl, .nl], kind := .struct [(0, 1, false), (1, 1, false), (2, 1, false)] }),
  (69, { size := 1, bytes := 8, row := false, zero := [.sc (.pointer none)], kind := .other }),
  (78, { size := 4, bytes := 40, row := true, zero := [.sc (.pointer none), .sc (.pointer none), .sc (.pointer none), .sc (.string .empty)], kind := .struct [(0, 1, false), (1, 1, false), (2, 1, false), (3, 1, false)] }),
  (79, { size := 4, bytes := 40, row := true, zero := [.sc (.pointer none), .sc (.pointer none), .sc (.pointer none), .sc (.string .empty)], kind := .struct [(0, 1, false), (1, 1, false), (2, 1, false), (3, 1, false)] }),
  (81, { size := 0, bytes := 0, row := true, zero := [], kind := .struct [(0, 0, true)] }),
  (82, { size := 0, bytes := 0, row := true, zero := [], kind := .struct [(0, 0, true)] }),
  (84, { size := 1, bytes := 4, row := false, zero := [.sc (.int .u32 0)], kind := .int .u32 }),
  (85, { size := 1, bytes := 1, row := false, zero := [.sc (.int .u8 0)], kind := .int .u8 }),
  (86, { size := 1, bytes := 1, row := false, zero := [.sc (.int .u8 0)], kind := .int .u8 }),
  (88, { size := 1, bytes := 8, row := false, zero := [.sc (.pointer none)], kind := .other }),
  (89, { size := 1, bytes := 4, row := false, zero := [.sc (.int .i32 0)], kind := .int .i32 }),
  (90, { size := 1, bytes := 4, row := false, zero := [.sc (.int .i32 0)], kind := .int .i32 }),
  (91, { size := 11, bytes := 48, row := true, zero := [.sc (.int .u64 0), .sc (.int .u64 0), .sc (.int .u32 0), .sc (.int .u8 0), .sc (.int .u8 0), .sc (.int .u8 0), .sc (.int .u8 0), .sc .nilFunc, .sc (.pointer none), .sc (.int .i32 0), .sc (.int .i32 0)], kind := .struct [(0, 1, false), (1, 1, false), (2, 1, false), (3, 1, false), (4, 1, false), (5, 1, false), (6, 1, false), (7, 1, false), (8, 1, false), (9, 1, false), (10, 1, false)] }),
  (92, { size := 11, bytes := 48, row := true, zero := [.sc (.int .u64 0), .sc (.int .u64 0), .sc (.int .u32 0), .sc (.int .u8 0), .sc (.int .u8 0), .sc (.int .u8 0), .sc (.int .u8 0), .sc .nilFunc, .sc (.pointer none), .sc (.int .i32 0), .sc (.int .i32 0)], kind := .struct [(0, 1, false), (1, 1, false), (2, 1, false), (3, 1, false), (4, 1, false), (5, 1, false), (6, 1, false), (7, 1, false), (8, 1, false), (9, 1, false), (10, 1, false)] }),
  (93, { size := 1, bytes := 8, row := false, zero := [.sc (.pointer none)], kind := .other })]
theorem tlAll : ∀ p ∈ TL, mkTy Try.prog p.1 = some p.2 := by
  unfold TL
  repeat refine List.forall_mem_cons.2 ⟨by kernel_rfl, ?_⟩
  exact List.forall_mem_nil _
theorem tyOk {T : TypeId} {t : TyI} (h : look T TL = some t) : mkTy Try.prog T = some t := tlAll (T, t) (look_mem h)
def TG : List (Nat × List Tag) := [(47, [.i, .i, .i, .s]), (48, [.i, .i, .i, .s]), (49, [.s, .i]), (50, [.s, .i])]
theorem tgAll : ∀ p ∈ TG, tagsOf Try.prog p.1 = some p.2 := by
  unfold TG
  repeat refine List.forall_mem_cons.2 ⟨by kernel_rfl, ?_⟩
  exact List.forall_mem_nil _
theorem tgOk {T : TypeId} {t : List Tag} (h : look T TG = some t) : tagsOf Try.prog T = some t := tgAll (T, t) (look_mem h)
theorem mixed : Try.prog.follows .mixedOrders = true := by kernel_rfl
end Go.Proofs.Ytobgjkkadnihjaa

