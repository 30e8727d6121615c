/-
  The walk of SharesEven: it returns true. No condition.
-/
import Derived.Test.YtgakkghlphnoaaaShare
namespace Go.Proofs.Ytgakkghlphnoaaa
set_option linter.unusedSimpArgs false
set_option linter.unusedVariables false
open Go.RowKit

theorem shareAt_eq (n k : Int) (i : Nat) : shareAt n k i = i * (n / k) + min (i : Int) (max 0 (n % k)) := by
  induction i with
  | zero => simp [shareAt]; omega
  | succ i ih =>
    unfold shareAt
    rw [ih, show ((i + 1 : Nat) : Int) = (i : Int) + 1 by omega, Int.add_mul, Int.one_mul]
    split <;> omega
theorem shareAt_end (n k : Int) (hk : 1 ≤ k) : shareAt n k k.toNat = n := by
  rw [shareAt_eq]
  have h1 := Int.emod_nonneg n (show k ≠ 0 by omega)
  have h2 := Int.emod_lt_of_pos n (show 0 < k by omega)
  have h3 := Int.mul_ediv_add_emod n k
  rw [show ((k.toNat : Nat) : Int) = k by omega]
  omega
theorem sharesEven_walk (a0 : Int) (a1 : Int) (w : World) (_w0 : I64 a0) (_w1 : I64 a1) :
    Calls Try.prog 5 #[.int .i64 a0, .int .i64 a1] w fun e w' => e = .returned (.bool true) ∧ Below w.heap.size w w' := by
  have hx := emod_in a0 65 (by omega)
  have hy := emod_in a1 8 (by omega)
  go_enter Try.func5, Try.ntmps5
  go_wp2_with fail
  refine (picked_any _ _ _ (by omega) (by omega)).mono ?_; rintro e w' ⟨rfl, rfl⟩
  go_wp2_with fail
  refine (picked_any _ _ _ (by omega) (by omega)).mono ?_; rintro e w' ⟨rfl, rfl⟩
  generalize a0 % 65 = n at *
  generalize a1 % 8 = k' at *
  obtain ⟨hx1, hx2⟩ := hx
  obtain ⟨hy1, hy2⟩ := hy
  obtain ⟨k, hk⟩ : ∃ k : Nat, (k : Int) = 1 + k' := ⟨(1 + k').toNat, by omega⟩
  have hk1 : 1 ≤ k := by omega
  have hk2 : k ≤ 8 := by omega
  have HK := Lib.hid hk
  clear hk
  go_wp2_with fail
  rw [← HK.out]
  clear hy1 hy2 HK
  refine (share_any n k _ (by omega) (by omega) (by omega) (by omega)).mono ?_; rintro e w1 ⟨v, rfl, hown, hbel⟩
  rw [Int.toNat_natCast] at hown
  obtain ⟨g, cap, rfl, hg, hg2⟩ := hown.form (by omega)
  have hadd : ∀ j, (⟨g, 0, none⟩ : Addr).add j = ⟨g, j, none⟩ := by intro j; unfold Addr.add; split <;> simp_all
  have hat : ∀ j, j < k + 1 → w1.cell? ⟨g, j, none⟩ = some (.int .i64 (shareAt n k j)) := fun j hj => by
    have := hown.cells (g := g) rfl j _ (shareL_at n k (k + 1) j hj)
    rwa [hadd] at this
  have c0 := hat 0 (by omega)
  have cE := hat k (by omega)
  have hend := shareAt_end n k (by omega)
  rw [Int.toNat_natCast] at hend
  rw [hend] at cE
  rw [show shareAt n k 0 = 0 from rfl] at c0
  clear hown hend
  have HAT := Lib.hid hat
  clear hat hadd
  have hne : (((k + 1 : Nat) : Int) != (k : Int) + 1) = false := by simp
  have hq : n.tdiv k = n / k := Int.tdiv_eq_ediv_of_nonneg hx1
  have hr : (n + k - 1).tdiv k = (n + k - 1) / k := Int.tdiv_eq_ediv_of_nonneg (by omega)
  go_wp2_with fail
  go_loopw [46] (fun i wr => ∃ m : Nat, m ≤ k ∧ i = .int .i64 m ∧ Below w1.heap.size w1 wr) (fun i _ => k - (intOf i).toNat)
  case atStart => exact ⟨0, by omega, rfl, Below.refl _ _⟩
  case round =>
    obtain ⟨m, hm, rfl, hb⟩ := hrel
    by_cases hlt : m < k
    · have cA := (hb.cell (p := ⟨g, m, none⟩) hg2).trans (HAT.out m (by omega))
      have cB := (hb.cell (p := ⟨g, m + 1, none⟩) hg2).trans (HAT.out (m + 1) (by omega))
      have hd : shareAt n k (m + 1) = shareAt n k m + (n / k + if (m : Int) < n % k then 1 else 0) := rfl
      have b1 := shareAt_bd n k (by omega) (by omega) (by omega) m (by omega)
      have b2 := shareAt_bd n k (by omega) (by omega) (by omega) (m + 1) (by omega)
      have hq0 : 0 ≤ n / k := Int.ediv_nonneg (by omega) (by omega)
      have hup : n / k + (if (m : Int) < n % k then 1 else 0) ≤ (n + k - 1) / k := by
        have e1 := Int.mul_ediv_add_emod n k
        have e2 := Int.emod_nonneg n (show (k : Int) ≠ 0 by omega)
        have e4 := Int.emod_lt_of_pos n (show 0 < (k : Int) by omega)
        split
        · rw [Int.le_ediv_iff_mul_le (by omega), Int.add_mul, Int.mul_comm (n / k)]; omega
        · rw [Int.add_zero]
          exact Int.ediv_le_ediv (by omega) (by omega)
      have hd1 : ¬ (shareAt n k (m + 1) - shareAt n k m < n / k) := by split at hd <;> omega
      have hd2 : ¬ ((n + k - 1) / k < shareAt n k (m + 1) - shareAt n k m) := by omega
      have t1 : decide (shareAt n k (m + 1) - shareAt n k m < n / k) = false := by simpa using hd1
      have t2 : decide ((n + k - 1) / k < shareAt n k (m + 1) - shareAt n k m) = false := by simpa using hd2
      generalize shareAt n k (m + 1) = s1 at *
      generalize shareAt n k m = s0 at *
      have hu0 : 0 ≤ (n + k - 1) / k := Int.ediv_nonneg (by omega) (by omega)
      have hu1 : (n + k - 1) / k ≤ n + k - 1 := Int.ediv_le_self _ (by omega)
      clear hd hup
      have hi0 : (0 : Int) ≤ (m : Int) + 1 := by omega
      have hi1 : (m : Int) + 1 < ((k + 1 : Nat) : Int) := by omega
      have hi2 : (m : Int) < ((k + 1 : Nat) : Int) := by omega
      have hi3 : ((m : Int) + 1).toNat = m + 1 := by omega
      go_wp2_with fail
      go_quiet (fail)
      go_wp2_with fail
      go_roundw
      case rel => exact ⟨m + 1, by omega, by go_num, below_drewN hb _⟩
      case measure => simp [intOf]; omega
    · obtain rfl : m = k := by omega
      go_wp2
      go_ret
      exact ⟨rfl, bstep hbel hb⟩
end Go.Proofs.Ytgakkghlphnoaaa
