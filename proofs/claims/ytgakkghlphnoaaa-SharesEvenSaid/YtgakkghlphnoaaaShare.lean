/-
  What split.Share answers: where each worker's part begins and ends. Conditions: a number of things from 0 to 64, workers from 1 to 8.
-/
import Derived.Test.YtgakkghlphnoaaaOpen
import Derived.Test.YtgakkghlphnoaaaApp
namespace Go.Proofs.Ytgakkghlphnoaaa
set_option linter.unusedSimpArgs false
set_option linter.unusedVariables false
open Go.RowKit

/-- How many each of the first i workers have together. -/
def shareAt (n k : Int) : Nat → Int
  | 0 => 0
  | i + 1 => shareAt n k i + (n / k + if (i : Int) < n % k then 1 else 0)
def shareL (n k : Int) (m : Nat) : List Value := (List.range m).map fun i => .int .i64 (shareAt n k i)
theorem shareL_len (n k : Int) (m : Nat) : (shareL n k m).length = m := by simp [shareL]
theorem shareL_succ (n k : Int) (m : Nat) : shareL n k (m + 1) = shareL n k m ++ [.int .i64 (shareAt n k m)] := by simp [shareL, List.range_succ]
theorem shareL_at (n k : Int) (m i : Nat) (h : i < m) : (shareL n k m)[i]? = some (.int .i64 (shareAt n k i)) := by simp [shareL, h]
theorem shareAt_bd (n k : Int) (hn : 0 ≤ n) (hn2 : n ≤ 64) (hk : 1 ≤ k) (i : Nat) (hi : i ≤ 8) : 0 ≤ shareAt n k i ∧ shareAt n k i ≤ 65 * i := by
  have h1 : 0 ≤ n / k := Int.ediv_nonneg hn (by omega)
  have h2 : n / k ≤ n := Int.ediv_le_self _ hn
  induction i with
  | zero => simp [shareAt]
  | succ i ih =>
    have := ih (by omega)
    unfold shareAt
    split <;> omega

theorem info_int : (Try.prog.info? 3).map (fun i => (i.zero, i.size, i.bytes)) = some (some (.int .i64 0), 1, 8) := by kernel_rfl
theorem share_any (n k : Int) (w : World) (hn : 0 ≤ n) (hn2 : n ≤ 64) (hk : 1 ≤ k) (hk2 : k ≤ 8) :
    Calls Try.prog 17 #[.int .i64 n, .int .i64 k] w fun e w' => ∃ v, e = .returned (.tuple #[v, .int .i64 0]) ∧ w'.ownsRow w.heap.size 3 1 v (k.toNat + 1) (shareL n k (k.toNat + 1)) ∧ Below w.heap.size w w' := by
  go_enter Try.func17, Try.ntmps17
  go_wp2_with fail
  go_loopw [6, 23] (fun v i wr => ∃ m : Nat, (m : Int) ≤ k ∧ i = .int .i64 m ∧ wr.ownsRow w.heap.size 3 1 v (m + 1) (shareL n k (m + 1)) ∧ Below w.heap.size w wr) (fun _ i _ => k.toNat - (intOf i).toNat)
  case atStart => exact ⟨0, by omega, rfl, own_one _ _ _, (Below.refl _ _).alloc (Nat.le_refl _) _⟩
  case round =>
    obtain ⟨m, hm, rfl, hown, hbel⟩ := hrel
    by_cases hlt : (m : Int) < k
    · obtain ⟨g, cap, rfl, hg, hg2⟩ := hown.form (by omega)
      have hcell := hown.cells (g := g) rfl m _ (shareL_at n k (m + 1) m (by omega))
      rw [show (⟨g, 0, none⟩ : Addr).add m = ⟨g, m, none⟩ by unfold Addr.add; split <;> simp_all] at hcell
      have hbd := shareAt_bd n k hn hn2 hk m (by omega)
      have hq : n.tdiv k = n / k := Int.tdiv_eq_ediv_of_nonneg hn
      have hr : n.tmod k = n % k := Int.tmod_eq_emod_of_nonneg hn
      have hq1 : 0 ≤ n / k := Int.ediv_nonneg hn (by omega)
      have hq2 : n / k ≤ n := Int.ediv_le_self _ hn
      have HN : Hid (shareAt n k (m + 1) = shareAt n k m + (n / k + if (m : Int) < n % k then 1 else 0)) := rfl
      have hx : shareL n k (m + 1 + 1) = shareL n k (m + 1) ++ [.int .i64 (shareAt n k (m + 1))] := shareL_succ n k (m + 1)
      generalize shareAt n k (m + 1) = s1 at *
      generalize shareAt n k m = s0 at *
      have HX := Lib.hid hx
      clear hx
      by_cases hc : (m : Int) < n % k
      · have HS : Hid (s1 = s0 + (n / k + 1)) := by rw [if_pos hc] at HN; exact HN
        go_wp2_with (at_builtin; refine app_own 29 3 _ 1 8 (.tmp 36) (.tmp 43) rfl rfl Try.underlying29 info_int rfl (by decide) rfl (hown.alloc _) (hbel.alloc hbel.size _) rfl (reads_one _ _ _) (by intro u hu; simp at hu; subst hu; rfl) (by omega) (by simp [maxLen]; omega) ?_; intro A' c' w' hown' hc1 hc2 hbel' _ _)
        go_roundw
        case rel => exact ⟨m + 1, by omega, by go_num, by rw [HX.out, HS.out]; exact hown', hbel'⟩
        case measure => simp [intOf]; omega
      · have HS : Hid (s1 = s0 + (n / k)) := by rw [if_neg hc, Int.add_zero] at HN; exact HN
        go_wp2_with (at_builtin; refine app_own 29 3 _ 1 8 (.tmp 36) (.tmp 43) rfl rfl Try.underlying29 info_int rfl (by decide) rfl (hown.alloc _) (hbel.alloc hbel.size _) rfl (reads_one _ _ _) (by intro u hu; simp at hu; subst hu; rfl) (by omega) (by simp [maxLen]; omega) ?_; intro A' c' w' hown' hc1 hc2 hbel' _ _)
        go_roundw
        case rel => exact ⟨m + 1, by omega, by go_num, by rw [HX.out, HS.out]; exact hown', hbel'⟩
        case measure => simp [intOf]; omega
    · obtain rfl : (m : Int) = k := by omega
      go_wp2
      go_ret2
      exact ⟨_, rfl, by simpa using hown, hbel⟩
end Go.Proofs.Ytgakkghlphnoaaa
