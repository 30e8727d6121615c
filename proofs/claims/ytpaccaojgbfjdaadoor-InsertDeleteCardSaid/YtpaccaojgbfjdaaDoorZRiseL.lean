/-
  Rows by rising keys: what a drawer's rows are. No program in sight.
-/
import Derived.Test.YtpaccaojgbfjdaaDoorZTb7
import Derived.Test.YtpaccaojgbfjdaaDoorZTb8
import Derived.Test.YtpaccaojgbfjdaaDoorZJoinD
namespace Go.Proofs.YtpaccaojgbfjdaaDoor
set_option linter.unusedSimpArgs false
set_option linter.unusedVariables false
open Go.RowKit

theorem step_rise {cols : List Cl} {d : List Ce} (h : DrOk cols d) : Rise (stepF true d []) ∧ ∀ x, x ∈ stepF true d [] ↔ ∃ c ∈ d, c.full = true ∧ c.row = x := by
  obtain ⟨s, h1, h2, h3⟩ := drawF_pre [] d [] List.Pairwise.nil (fun _ _ _ p hp => absurd hp (by simp)) h.keys
  have e : stepF true d [] = s := h2
  rw [e]
  exact ⟨h1, fun x => by rw [h3]; simp⟩
theorem step_app {cols : List Cl} {d : List Ce} (h : DrOk cols d) (A : List (List Vl)) : stepF true d A = A ++ stepF true d [] := by
  obtain ⟨s, h1, h2, h3⟩ := drawF_pre A d [] List.Pairwise.nil (fun _ _ _ p hp => absurd hp (by simp)) h.keys
  rw [List.append_nil] at h2
  have e : stepF true d A = A ++ s := h2
  rw [e, rise_eq h1 (step_rise h).1 fun x => by rw [h3, (step_rise h).2]; simp]
theorem step_len5 {cols : List Cl} (hc : ColsOk cols) {d : List Ce} (h : DrOk cols d) : ∀ r ∈ stepF true d [], r.length ≤ 5 := by
  intro r hr
  obtain ⟨c, hm, hf, rfl⟩ := ((step_rise h).2 r).1 hr
  have := ((h.ok c hm).fit hf).len
  have := hc.len
  omega
end Go.Proofs.YtpaccaojgbfjdaaDoor

