/-
  Contracts of value.truth, And, Or and Not at truths 0, 1, 2. The arguments are truths.
-/
import Derived.Test.YtgakkghlphnoaaaBase
namespace Go.Proofs.Ytgakkghlphnoaaa
open Go.RowKit

theorem truth2 (x y : Int) (b : Nat) (w : World) (hx : 0 ≤ x) (hx2 : x ≤ 2) (hy : 0 ≤ y) (hy2 : y ≤ 2) (c0 : w.cell? ⟨b, 0, none⟩ = some (.int .i64 x)) (c1 : w.cell? ⟨b, 1, none⟩ = some (.int .i64 y)) :
    Calls Try.prog 35 #[.slice (some ⟨b, 0, none⟩) 2 2] w fun e w' => e = .returned (.int .i64 0) ∧ w = w' := by
  go_enter Try.func35, Try.ntmps35
  go_wp2
  go_rounds 3
  all_goals (go_ret; exact ⟨rfl, rfl⟩)
theorem truth1 (x : Int) (b : Nat) (w : World) (hx : 0 ≤ x) (hx2 : x ≤ 2) (c0 : w.cell? ⟨b, 0, none⟩ = some (.int .i64 x)) :
    Calls Try.prog 35 #[.slice (some ⟨b, 0, none⟩) 1 1] w fun e w' => e = .returned (.int .i64 0) ∧ w = w' := by
  go_enter Try.func35, Try.ntmps35
  go_wp2
  go_rounds 2
  all_goals (go_ret; exact ⟨rfl, rfl⟩)
theorem and_any (x y : Int) (w : World) (hx : 0 ≤ x) (hx2 : x ≤ 2) (hy : 0 ≤ y) (hy2 : y ≤ 2) :
    Calls Try.prog 18 #[.int .i64 x, .int .i64 y] w fun e w' => e = .returned (.tuple #[.int .i64 (min x y), .int .i64 0]) ∧ Below w.heap.size w w' := by
  go_enter Try.func18, Try.ntmps18
  go_wp2_with (go_at_call 35; refine (truth2 x y _ _ hx hx2 hy hy2 (by simp [go_sem]) (by simp [go_sem])).mono ?_; rintro e w' ⟨rfl, rfl⟩)
  all_goals
    go_ret2
    exact ⟨ret_ints (by omega) rfl, (Below.refl _ _).alloc (Nat.le_refl _) _⟩
theorem or_any (x y : Int) (w : World) (hx : 0 ≤ x) (hx2 : x ≤ 2) (hy : 0 ≤ y) (hy2 : y ≤ 2) :
    Calls Try.prog 20 #[.int .i64 x, .int .i64 y] w fun e w' => e = .returned (.tuple #[.int .i64 (max x y), .int .i64 0]) ∧ Below w.heap.size w w' := by
  go_enter Try.func20, Try.ntmps20
  go_wp2_with (go_at_call 35; refine (truth2 x y _ _ hx hx2 hy hy2 (by simp [go_sem]) (by simp [go_sem])).mono ?_; rintro e w' ⟨rfl, rfl⟩)
  all_goals
    go_ret2
    exact ⟨ret_ints (by omega) rfl, (Below.refl _ _).alloc (Nat.le_refl _) _⟩
theorem not_any (x : Int) (w : World) (hx : 0 ≤ x) (hx2 : x ≤ 2) :
    Calls Try.prog 19 #[.int .i64 x] w fun e w' => e = .returned (.tuple #[.int .i64 (2 - x), .int .i64 0]) ∧ Below w.heap.size w w' := by
  go_enter Try.func19, Try.ntmps19
  go_wp2_with (go_at_call 35; refine (truth1 x _ _ hx hx2 (by simp [go_sem])).mono ?_; rintro e w' ⟨rfl, rfl⟩)
  go_ret2
  exact ⟨rfl, (Below.refl _ _).alloc (Nat.le_refl _) _⟩
end Go.Proofs.Ytgakkghlphnoaaa
