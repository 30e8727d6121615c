/-
  The table of the types that the walks meet. No condition.
-/
import Derived.Test.YtaibgoobghmfjaaPlEq
import Derived.Test.YtaibgoobghmfjaaProg
namespace Go.Proofs.Ytaibgoobghmfjaa
open Go.RowKit
theorem ty2 : mkTy Try.prog 2 = some { size := 1, bytes := 8, row := false, zero := [.sc (.int .i64 0)], kind := .int .i64 } := by kernel_rfl
theorem ty3 : mkTy Try.prog 3 = some { size := 1, bytes := 8, row := false, zero := [.sc (.int .i64 0)], kind := .int .i64 } := by kernel_rfl
theorem ty4 : mkTy Try.prog 4 = some { size := 1, bytes := 1, row := false, zero := [.sc (.bool false)], kind := .bool } := by kernel_rfl
theorem ty5 : mkTy Try.prog 5 = some { size := 1, bytes := 1, row := false, zero := [.sc (.int .u8 0)], kind := .int .u8 } := by kernel_rfl
theorem ty6 : mkTy Try.prog 6 = some { size := 1, bytes := 1, row := false, zero := [.sc (.int .u8 0)], kind := .int .u8 } := by kernel_rfl
theorem ty7 : mkTy Try.prog 7 = some { size := 4, bytes := 24, row := true, zero := [.sc (.int .i64 0), .sc (.int .i64 0), .sc (.bool false), .sc (.int .u8 0)], kind := .struct [(0, 1, false), (1, 1, false), (2, 1, false), (3, 1, false)] } := by kernel_rfl
theorem ty8 : mkTy Try.prog 8 = some { size := 4, bytes := 24, row := true, zero := [.sc (.int .i64 0), .sc (.int .i64 0), .sc (.bool false), .sc (.int .u8 0)], kind := .struct [(0, 1, false), (1, 1, false), (2, 1, false), (3, 1, false)] } := by kernel_rfl
theorem ty9 : mkTy Try.prog 9 = some { size := 1, bytes := 16, row := false, zero := [.sc (.string .empty)], kind := .str } := by kernel_rfl
theorem ty10 : mkTy Try.prog 10 = some { size := 1, bytes := 16, row := false, zero := [.sc (.string .empty)], kind := .str } := by kernel_rfl
theorem ty11 : mkTy Try.prog 11 = some { size := 1, bytes := 16, row := false, zero := [.sc (.string .empty)], kind := .str } := by kernel_rfl
theorem ty12 : mkTy Try.prog 12 = some { size := 1, bytes := 8, row := false, zero := [.sc (.int .u64 0)], kind := .int .u64 } := by kernel_rfl
theorem ty13 : mkTy Try.prog 13 = some { size := 2, bytes := 24, row := true, zero := [.sc (.string .empty), .sc (.int .u64 0)], kind := .struct [(0, 1, false), (1, 1, false)] } := by kernel_rfl
theorem ty14 : mkTy Try.prog 14 = some { size := 2, bytes := 24, row := true, zero := [.sc (.string .empty), .sc (.int .u64 0)], kind := .struct [(0, 1, false), (1, 1, false)] } := by kernel_rfl
theorem ty15 : mkTy Try.prog 15 = some { size := 1, bytes := 8, row := false, zero := [.sc (.pointer none)], kind := .other } := by kernel_rfl
theorem ty16 : mkTy Try.prog 16 = some { size := 1, bytes := 8, row := false, zero := [.sc (.pointer none)], kind := .other } := by kernel_rfl
theorem ty17 : mkTy Try.prog 17 = some { size := 1, bytes := 8, row := false, zero := [.sc (.pointer none)], kind := .other } := by kernel_rfl
theorem ty18 : mkTy Try.prog 18 = some { size := 1, bytes := 8, row := true, zero := [.sc (.pointer none)], kind := .struct [(0, 1, false)] } := by kernel_rfl
theorem ty19 : mkTy Try.prog 19 = some { size := 1, bytes := 8, row := true, zero := [.sc (.pointer none)], kind := .struct [(0, 1, false)] } := by kernel_rfl
theorem ty21 : mkTy Try.prog 21 = some { size := 1, bytes := 4, row := false, zero := [.sc (.int .i32 0)], kind := .int .i32 } := by kernel_rfl
theorem ty22 : mkTy Try.prog 22 = some { size := 1, bytes := 24, row := false, zero := [.nl], kind := .slice 40 } := by kernel_rfl
theorem ty23 : mkTy Try.prog 23 = some { size := 1, bytes := 24, row := false, zero := [.nl], kind := .slice 28 } := by kernel_rfl
theorem ty27 : mkTy Try.prog 27 = some { size := 5, bytes := 40, row := true, zero := [.sc (.int .i64 0), .sc (.int .i64 0), .sc (.int .i64 0), .sc (.int .i64 0), .sc (.bool false)], kind := .struct [(0, 1, false), (1, 1, false), (2, 1, false), (3, 1, false), (4, 1, false)] } := by kernel_rfl
theorem ty28 : mkTy Try.prog 28 = some { size := 5, bytes := 40, row := true, zero := [.sc (.int .i64 0), .sc (.int .i64 0), .sc (.int .i64 0), .sc (.int .i64 0), .sc (.bool false)], kind := .struct [(0, 1, false), (1, 1, false), (2, 1, false), (3, 1, false), (4, 1, false)] } := by kernel_rfl
theorem ty30 : mkTy Try.prog 30 = some { size := 1, bytes := 8, row := false, zero := [.sc (.int .i64 0)], kind := .int .i64 } := by kernel_rfl
theorem ty39 : mkTy Try.prog 39 = some { size := 4, bytes := 40, row := true, zero := [.sc (.int .i64 0), .sc (.int .i64 0), .sc (.int .i64 0), .sc (.string .empty)], kind := .struct [(0, 1, false), (1, 1, false), (2, 1, false), (3, 1, false)] } := by kernel_rfl
theorem ty40 : mkTy Try.prog 40 = some { size := 4, bytes := 40, row := true, zero := [.sc (.int .i64 0), .sc (.int .i64 0), .sc (.int .i64 0), .sc (.string .empty)], kind := .struct [(0, 1, false), (1, 1, false), (2, 1, false), (3, 1, false)] } := by kernel_rfl
theorem ty49 : mkTy Try.prog 49 = some { size := 4, bytes := 32, row := true, zero := [.sc (.int .i64 0), .sc (.int .i64 0), .sc (.int .i64 0), .sc (.int .i64 0)], kind := .struct [(0, 1, false), (1, 1, false), (2, 1, false), (3, 1, false)] } := by kernel_rfl
theorem ty50 : mkTy Try.prog 50 = some { size := 4, bytes := 32, row := true, zero := [.sc (.int .i64 0), .sc (.int .i64 0), .sc (.int .i64 0), .sc (.int .i64 0)], kind := .struct [(0, 1, false), (1, 1, false), (2, 1, false), (3, 1, false)] } := by kernel_rfl
theorem ty57 : mkTy Try.prog 57 = some { size := 1, bytes := 24, row := false, zero := [.nl], kind := .slice 3 } := by kernel_rfl
theorem ty59 : mkTy Try.prog 59 = some { size := 4, bytes := 40, row := true, zero := [.sc (.pointer none), .sc (.pointer none), .sc (.pointer none), .sc (.string .empty)], kind := .struct [(0, 1, false), (1, 1, false), (2, 1, false), (3, 1, false)] } := by kernel_rfl
theorem ty60 : mkTy Try.prog 60 = some { size := 4, bytes := 40, row := true, zero := [.sc (.pointer none), .sc (.pointer none), .sc (.pointer none), .sc (.string .empty)], kind := .struct [(0, 1, false), (1, 1, false), (2, 1, false), (3, 1, false)] } := by kernel_rfl
theorem ty65 : mkTy Try.prog 65 = some { size := 1, bytes := 4, row := false, zero := [.sc (.int .u32 0)], kind := .int .u32 } := by kernel_rfl
theorem ty66 : mkTy Try.prog 66 = some { size := 1, bytes := 1, row := false, zero := [.sc (.int .u8 0)], kind := .int .u8 } := by kernel_rfl
theorem ty67 : mkTy Try.prog 67 = some { size := 1, bytes := 1, row := false, zero := [.sc (.int .u8 0)], kind := .int .u8 } := by kernel_rfl
theorem ty69 : mkTy Try.prog 69 = some { size := 1, bytes := 8, row := false, zero := [.sc (.pointer none)], kind := .other } := by kernel_rfl
theorem ty70 : mkTy Try.prog 70 = some { size := 1, bytes := 4, row := false, zero := [.sc (.int .i32 0)], kind := .int .i32 } := by kernel_rfl
theorem ty71 : mkTy Try.prog 71 = some { size := 1, bytes := 4, row := false, zero := [.sc (.int .i32 0)], kind := .int .i32 } := by kernel_rfl
theorem ty72 : mkTy Try.prog 72 = some { size := 11, bytes := 48, row := true, zero := [.sc (.int .u64 0), .sc (.int .u64 0), .sc (.int .u32 0), .sc (.int .u8 0), .sc (.int .u8 0), .sc (.int .u8 0), .sc (.int .u8 0), .sc .nilFunc, .sc (.pointer none), .sc (.int .i32 0), .sc (.int .i32 0)], kind := .struct [(0, 1, false), (1, 1, false), (2, 1, false), (3, 1, false), (4, 1, false), (5, 1, false), (6, 1, false), (7, 1, false), (8, 1, false), (9, 1, false), (10, 1, false)] } := by kernel_rfl
theorem ty73 : mkTy Try.prog 73 = some { size := 11, bytes := 48, row := true, zero := [.sc (.int .u64 0), .sc (.int .u64 0), .sc (.int .u32 0), .sc (.int .u8 0), .sc (.int .u8 0), .sc (.int .u8 0), .sc (.int .u8 0), .sc .nilFunc, .sc (.pointer none), .sc (.int .i32 0), .sc (.int .i32 0)], kind := .struct [(0, 1, false), (1, 1, false), (2, 1, false), (3, 1, false), (4, 1, false), (5, 1, false), (6, 1, false), (7, 1, false), (8, 1, false), (9, 1, false), (10, 1, false)] } := by kernel_rfl
theorem ty74 : mkTy Try.prog 74 = some { size := 1, bytes := 8, row := false, zero := [.sc (.pointer none)], kind := .other } := by kernel_rfl
def TL : List (Nat × TyI) := [(2, { size := 1, bytes := 8, row := false, zero := [.sc (.int .i64 0)], kind := .int .i64 }),
  (3, { size := 1, bytes := 8, row := false, zero := [.sc (.int .i64 0)], kind := .int .i64 }),
  (4, { size := 1, bytes := 1, row := false, zero := [.sc (.bool false)], kind := .bool }),
  (5, { size := 1, bytes := 1, row := false, zero := [.sc (.int .u8 0)], kind := .int .u8 }),
  (6, { size := 1, bytes := 1, row := false, zero := [.sc (.int .u8 0)], kind := .int .u8 }),
  (7, { size := 4, bytes := 24, row := true, zero := [.sc (.int .i64 0), .sc (.int .i64 0), .sc (.bool false), .sc (.int .u8 0)], kind := .struct [(0, 1, false), (1, 1, false), (2, 1, false), (3, 1, false)] }),
  (8, { size := 4, bytes := 24, row := true, zero := [.sc (.int .i64 0), .sc (.int .i64 0), .sc (.bool false), .sc (.int .u8 0)], kind := .struct [(0, 1, false), (1, 1, false), (2, 1, false), (3, 1, false)] }),
  (9, { size := 1, bytes := 16, row := false, zero := [.sc (.string .empty)], kind := .str }),
  (10, { size := 1, bytes := 16, row := false, zero := [.sc (.string .empty)], kind := .str }),
  (11, { size := 1, bytes := 16, row := false, zero := [.sc (.string .empty)], kind := .str }),
  (12, { size := 1, bytes := 8, row := false, zero := [.sc (.int .u64 0)], kind := .int .u64 }),
  (13, { size := 2, bytes := 24, row := true, zero := [.sc (.string .empty), .sc (.int .u64 0)], kind := .struct [(0, 1, false), (1, 1, false)] }),
  (14, { size := 2, bytes := 24, row := true, zero := [.sc (.string .empty), .sc (.int .u64 0)], kind := .struct [(0, 1, false), (1, 1, false)] }),
  (15, { size := 1, bytes := 8, row := false, zero := [.sc (.pointer none)], kind := .other }),
  (16, { size := 1, bytes := 8, row := false, zero := [.sc (.pointer none)], kind := .other }),
  (17, { size := 1, bytes := 8, row := false, zero := [.sc (.pointer none)], kind := .other }),
  (18, { size := 1, bytes := 8, row := true, zero := [.sc (.pointer none)], kind := .struct [(0, 1, false)] }),
  (19, { size := 1, bytes := 8, row := true, zero := [.sc (.pointer none)], kind := .struct [(0, 1, false)] }),
  (21, { size := 1, bytes := 4, row := false, zero := [.sc (.int .i32 0)], kind := .int .i32 }),
  (22, { size := 1, bytes := 24, row := false, zero := [.nl], kind := .slice 40 }),
  (23, { size := 1, bytes := 24, row := false, zero := [.nl], kind := .slice 28 }),
  (27, { size := 5, bytes := 40, row := true, zero := [.sc (.int .i64 0), .sc (.int .i64 0), .sc (.int .i64 0), .sc (.int .i64 0), .sc (.bool false)], kind := .struct [(0, 1, false), (1, 1, false), (2, 1, false), (3, 1, false), (4, 1, false)] }),
  (28, { size := 5, bytes := 40, row := true, zero := [.sc (.int .i64 0), .sc (.int .i64 0), .sc (.int .i64 0), .sc (.int .i64 0), .sc (.bool false)], kind := .struct [(0, 1, false), (1, 1, false), (2, 1, false), (3, 1, false), (4, 1, false)] }),
  (30, { size := 1, bytes := 8, row := false, zero := [.sc (.int .i64 0)], kind := .int .i64 }),
  (39, { size := 4, bytes := 40, row := true, zero := [.sc (.int .i64 0), .sc (.int .i64 0), .sc (.int .i64 0), .sc (.string .empty)], kind := .struct [(0, 1, false), (1, 1, false), (2, 1, false), (3, 1, false)] }),
  (40, { size := 4, bytes := 40, row := true, zero := [.sc (.int .i64 0), .sc (.int .i64 0), .sc (.int .i64 0), .sc (.string .empty)], kind := .struct [(0, 1, false), (1, 1, false), (2, 1, false), (3, 1, false)] }),
  (49, { size := 4, bytes := 32, row := true, zero := [.sc (.int .i64 0), .sc (.int .i64 0), .sc (.int .i64 0), .sc (.int .i64 0)], kind := .struct [(0, 1, false), (1, 1, false), (2, 1, false), (3, 1, false)] }),
  (50, { size := 4, bytes := 32, row := true, zero := [.sc (.int .i64 0), .sc (.int .i64 0), .sc (.int .i64 0), .sc (.int .i64 0)], kind := .struct [(0, 1, false), (1, 1, false), (2, 1, false), (3, 1, false)] }),
  (57, { size := 1, bytes := 24, row := false, zero := [.nl], kind := .slice 3 }),
  (59, { size := 4, bytes := 40, row := true, zero := [.sc (.pointer none), .sc (.pointer none), .sc (.pointer none), .sc (.string .empty)], kind := .struct [(0, 1, false), (1, 1, false), (2, 1, false), (3, 1, false)] }),
  (60, { size := 4, bytes := 40, row := true, zero := [.sc (.pointer none), .sc (.pointer none), .sc (.pointer none), .sc (.string .empty)], kind := .struct [(0, 1, false), (1, 1, false), (2, 1, false), (3, 1, false)] }),
  (65, { size := 1, bytes := 4, row := false, zero := [.sc (.int .u32 0)], kind := .int .u32 }),
  (66, { size := 1, bytes := 1, row := false, zero := [.sc (.int .u8 0)], kind := .int .u8 }),
  (67, { size := 1, bytes := 1, row := false, zero := [.sc (.int .u8 0)], kind := .int .u8 }),
  (69, { size := 1, bytes := 8, row := false, zero := [.sc (.pointer none)], kind := .other }),
  (70, { size := 1, bytes := 4, row := false, zero := [.sc (.int .i32 0)], kind := .int .i32 }),
  (71, { size := 1, bytes := 4, row := false, zero := [.sc (.int .i32 0)], kind := .int .i32 }),
  (72, { size := 11, bytes := 48, row := true, zero := [.sc (.int .u64 0), .sc (.int .u64 0), .sc (.int .u32 0), .sc (.int .u8 0), .sc (.int .u8 0), .sc (.int .u8 0), .sc (.int .u8 0), .sc .nilFunc, .sc (.pointer none), .sc (.int .i32 0), .sc (.int .i32 0)], kind := .struct [(0, 1, false), (1, 1, false), (2, 1, false), (3, 1, false), (4, 1, false), (5, 1, false), (6, 1, false), (7, 1, false), (8, 1, false), (9, 1, false), (10, 1, false)] }),
  (73, { size := 11, bytes := 48, row := true, zero := [.sc (.int .u64 0), .sc (.int .u64 0), .sc (.int .u32 0), .sc (.int .u8 0), .sc (.int .u8 0), .sc (.int .u8 0), .sc (.int .u8 0), .sc .nilFunc, .sc (.pointer none), .sc (.int .i32 0), .sc (.int .i32 0)], kind := .struct [(0, 1, false), (1, 1, false), (2, 1, false), (3, 1, false), (4, 1, false), (5, 1, false), (6, 1, false), (7, 1, false), (8, 1, false), (9, 1, false), (10, 1, false)] }),
  (74, { size := 1, bytes := 8, row := false, zero := [.sc (.pointer none)], kind := .other })]
theorem tlAll : ∀ p ∈ TL, mkTy Try.prog p.1 = some p.2 := by
  unfold TL
  refine List.forall_mem_cons.2 ⟨ty2, ?_⟩
  refine List.forall_mem_cons.2 ⟨ty3, ?_⟩
  refine List.forall_mem_cons.2 ⟨ty4, ?_⟩
  refine List.forall_mem_cons.2 ⟨ty5, ?_⟩
  refine List.forall_mem_cons.2 ⟨ty6, ?_⟩
  refine List.forall_mem_cons.2 ⟨ty7, ?_⟩
  refine List.forall_mem_cons.2 ⟨ty8, ?_⟩
  refine List.forall_mem_cons.2 ⟨ty9, ?_⟩
  refine List.forall_mem_cons.2 ⟨ty10, ?_⟩
  refine List.forall_mem_cons.2 ⟨ty11, ?_⟩
  refine List.forall_mem_cons.2 ⟨ty12, ?_⟩
  refine List.forall_mem_cons.2 ⟨ty13, ?_⟩
  refine List.forall_mem_cons.2 ⟨ty14, ?_⟩
  refine List.forall_mem_cons.2 ⟨ty15, ?_⟩
  refine List.forall_mem_cons.2 ⟨ty16, ?_⟩
  refine List.forall_mem_cons.2 ⟨ty17, ?_⟩
  refine List.forall_mem_cons.2 ⟨ty18, ?_⟩
  refine List.forall_mem_cons.2 ⟨ty19, ?_⟩
  refine List.forall_mem_cons.2 ⟨ty21, ?_⟩
  refine List.forall_mem_cons.2 ⟨ty22, ?_⟩
  refine List.forall_mem_cons.2 ⟨ty23, ?_⟩
  refine List.forall_mem_cons.2 ⟨ty27, ?_⟩
  refine List.forall_mem_cons.2 ⟨ty28, ?_⟩
  refine List.forall_mem_cons.2 ⟨ty30, ?_⟩
  refine List.forall_mem_cons.2 ⟨ty39, ?_⟩
  refine List.forall_mem_cons.2 ⟨ty40, ?_⟩
  refine List.forall_mem_cons.2 ⟨ty49, ?_⟩
  refine List.forall_mem_cons.2 ⟨ty50, ?_⟩
  refine List.forall_mem_cons.2 ⟨ty57, ?_⟩
  refine List.forall_mem_cons.2 ⟨ty59, ?_⟩
  refine List.forall_mem_cons.2 ⟨ty60, ?_⟩
  refine List.forall_mem_cons.2 ⟨ty65, ?_⟩
  refine List.forall_mem_cons.2 ⟨ty66, ?_⟩
  refine List.forall_mem_cons.2 ⟨ty67, ?_⟩
  refine List.forall_mem_cons.2 ⟨ty69, ?_⟩
  refine List.forall_mem_cons.2 ⟨ty70, ?_⟩
  refine List.forall_mem_cons.2 ⟨ty71, ?_⟩
  refine List.forall_mem_cons.2 ⟨ty72, ?_⟩
  refine List.forall_mem_cons.2 ⟨ty73, ?_⟩
  refine List.forall_mem_cons.2 ⟨ty74, ?_⟩
  exact List.forall_mem_nil _
theorem tyOk {T : TypeId} {t : TyI} (h : look T TL = some t) : mkTy Try.prog T = some t := tlAll (T, t) (look_mem h)
theorem tg27 : tagsOf Try.prog 27 = some [.i, .i, .i, .i, .b] := by kernel_rfl
theorem tg28 : tagsOf Try.prog 28 = some [.i, .i, .i, .i, .b] := by kernel_rfl
theorem tg39 : tagsOf Try.prog 39 = some [.i, .i, .i, .s] := by kernel_rfl
theorem tg40 : tagsOf Try.prog 40 = some [.i, .i, .i, .s] := by kernel_rfl
theorem tg49 : tagsOf Try.prog 49 = some [.i, .i, .i, .i] := by kernel_rfl
theorem tg50 : tagsOf Try.prog 50 = some [.i, .i, .i, .i] := by kernel_rfl
def TG : List (Nat × List Tag) := [(27, [.i, .i, .i, .i, .b]), (28, [.i, .i, .i, .i, .b]), (39, [.i, .i, .i, .s]), (40, [.i, .i, .i, .s]), (49, [.i, .i, .i, .i]), (50, [.i, .i, .i, .i])]
theorem tgAll : ∀ p ∈ TG, tagsOf Try.prog p.1 = some p.2 := by
  unfold TG
  refine List.forall_mem_cons.2 ⟨tg27, ?_⟩
  refine List.forall_mem_cons.2 ⟨tg28, ?_⟩
  refine List.forall_mem_cons.2 ⟨tg39, ?_⟩
  refine List.forall_mem_cons.2 ⟨tg40, ?_⟩
  refine List.forall_mem_cons.2 ⟨tg49, ?_⟩
  refine List.forall_mem_cons.2 ⟨tg50, ?_⟩
  exact List.forall_mem_nil _
theorem tgOk {T : TypeId} {t : List Tag} (h : look T TG = some t) : tagsOf Try.prog T = some t := tgAll (T, t) (look_mem h)
theorem mixed : Try.prog.follows .mixedOrders = true := by kernel_rfl
end Go.Proofs.Ytaibgoobghmfjaa
