/-
  DeMorgan and KnowMore: the laws of truth in three parts return true. No condition.
-/
import Derived.Test.YtgakkghlphnoaaaTruth
import Derived.Test.YtgakkghlphnoaaaOpen
namespace Go.Proofs.Ytgakkghlphnoaaa
open Go.RowKit

theorem deMorgan_walk (a0 : Int) (a1 : Int) (w : World) (_w0 : I64 a0) (_w1 : I64 a1) :
    Calls Try.prog 6 #[.int .i64 a0, .int .i64 a1] w fun e w' => e = .returned (.bool true) ∧ Below w.heap.size w w' := by
  have hx := emod_in a0 3 (by omega)
  have hy := emod_in a1 3 (by omega)
  go_enter Try.func6, Try.ntmps6
  go_wp2_with fail
  refine (picked_any _ _ _ (by omega) (by omega)).mono ?_; rintro e w' ⟨rfl, rfl⟩
  go_wp2_with fail
  refine (picked_any _ _ _ (by omega) (by omega)).mono ?_; rintro e w' ⟨rfl, rfl⟩
  generalize a0 % 3 = x at *
  generalize a1 % 3 = y at *
  obtain ⟨hx1, hx2⟩ := hx
  obtain ⟨hy1, hy2⟩ := hy
  go_wp2_with fail
  refine (and_any _ _ _ (by omega) (by omega) (by omega) (by omega)).mono ?_; rintro e w1 ⟨rfl, b1⟩
  go_wp2_with fail
  refine (not_any _ _ (by omega) (by omega)).mono ?_; rintro e w2 ⟨rfl, b2⟩
  go_wp2_with fail
  refine (not_any _ _ (by omega) (by omega)).mono ?_; rintro e w3 ⟨rfl, b3⟩
  go_wp2_with fail
  refine (not_any _ _ (by omega) (by omega)).mono ?_; rintro e w4 ⟨rfl, b4⟩
  go_wp2_with fail
  refine (or_any _ _ _ (by omega) (by omega) (by omega) (by omega)).mono ?_; rintro e w5 ⟨rfl, b5⟩
  go_wp2_with fail
  refine (not_any _ _ (by omega) (by omega)).mono ?_; rintro e w6 ⟨rfl, b6⟩
  go_wp2_with fail
  all_goals
    go_ret
    exact ⟨ret_bool (by simp; omega), bstep (bstep (bstep (bstep (bstep b1 b2) b3) b4) b5) b6⟩

theorem knowMore_walk (a0 : Int) (a1 : Int) (a2 : Int) (w : World) (_w0 : I64 a0) (_w1 : I64 a1) (_w2 : I64 a2) :
    Calls Try.prog 7 #[.int .i64 a0, .int .i64 a1, .int .i64 a2] w fun e w' => e = .returned (.bool true) ∧ Below w.heap.size w w' := by
  have hx := emod_in a0 3 (by omega)
  have hy := emod_in a1 3 (by omega)
  have hz := emod_in a2 3 (by omega)
  go_enter Try.func7, Try.ntmps7
  go_wp2_with fail
  refine (picked_any _ _ _ (by omega) (by omega)).mono ?_; rintro e w' ⟨rfl, rfl⟩
  go_wp2_with fail
  refine (picked_any _ _ _ (by omega) (by omega)).mono ?_; rintro e w' ⟨rfl, rfl⟩
  go_wp2_with fail
  refine (picked_any _ _ _ (by omega) (by omega)).mono ?_; rintro e w' ⟨rfl, rfl⟩
  generalize a0 % 3 = x at *
  generalize a1 % 3 = y at *
  generalize a2 % 3 = z at *
  obtain ⟨hx1, hx2⟩ := hx
  obtain ⟨hy1, hy2⟩ := hy
  obtain ⟨hz1, hz2⟩ := hz
  go_wp2_with fail
  all_goals
    refine (and_any _ _ _ (by omega) (by omega) (by omega) (by omega)).mono ?_; rintro e w1 ⟨rfl, b1⟩
    go_wp2_with fail
    refine (and_any _ _ _ (by omega) (by omega) (by omega) (by omega)).mono ?_; rintro e w2 ⟨rfl, b2⟩
    go_wp2_with fail
    refine (or_any _ _ _ (by omega) (by omega) (by omega) (by omega)).mono ?_; rintro e w3 ⟨rfl, b3⟩
    go_wp2_with fail
    refine (or_any _ _ _ (by omega) (by omega) (by omega) (by omega)).mono ?_; rintro e w4 ⟨rfl, b4⟩
    go_wp2_with fail
    refine (not_any _ _ (by omega) (by omega)).mono ?_; rintro e w5 ⟨rfl, b5⟩
    go_wp2_with fail
    all_goals
      go_ret
      refine ⟨ret_bool ?_, bstep (bstep (bstep (bstep b1 b2) b3) b4) b5⟩
      clear b1 b2 b3 b4 b5
      obtain rfl | rfl | rfl : x = 0 ∨ x = 1 ∨ x = 2 := by omega
      all_goals obtain rfl | rfl | rfl : y = 0 ∨ y = 1 ∨ y = 2 := by omega
      all_goals first | (exfalso; omega) | rfl | (obtain rfl | rfl | rfl : z = 0 ∨ z = 1 ∨ z = 2 := by omega) <;> first | rfl | (exfalso; omega) | (simp_all; done)
end Go.Proofs.Ytgakkghlphnoaaa
