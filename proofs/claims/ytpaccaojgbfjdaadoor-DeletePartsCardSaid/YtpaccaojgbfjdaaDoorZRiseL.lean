/-
  Rows by rising keys: what a drawer's rows are. No program in sight.
-/
import Derived.Test.YtpaccaojgbfjdaaDoorZTb7
import Derived.Test.YtpaccaojgbfjdaaDoorZTb8
import Derived.Test.YtpaccaojgbfjdaaDoorZJoinD
set_option linter.unusedSimpArgs false
set_option linter.unusedVariables false
namespace Go.Proofs.YtpaccaojgbfjdaaDoor
open Go.RowKit

theorem qB7 {cols : List Cl} {d : List Ce} (h : DrOk cols d) : Rise (qBS true d []) ∧ ∀ x, x ∈ qBS true d [] ↔ ∃ c ∈ d, c.full = true ∧ c.row = x := by
  obtain ⟨s, h1, h2, h3⟩ := qEu [] d [] List.Pairwise.nil (fun _ _ _ p hp => absurd hp (by simp)) h.keys
  have e : qBS true d [] = s := h2
  rw [e]
  exact ⟨h1, fun x => by rw [h3]; simp⟩
theorem step_app {cols : List Cl} {d : List Ce} (h : DrOk cols d) (A : List (List Vl)) : qBS true d A = A ++ qBS true d [] := by
  obtain ⟨s, h1, h2, h3⟩ := qEu A d [] List.Pairwise.nil (fun _ _ _ p hp => absurd hp (by simp)) h.keys
  rw [List.append_nil] at h2
  have e : qBS true d A = A ++ s := h2
  rw [e, rise_eq h1 (qB7 h).1 fun x => by rw [h3, (qB7 h).2]; simp]
theorem step_len5 {cols : List Cl} (hc : ColsOk cols) {d : List Ce} (h : DrOk cols d) : ∀ r ∈ qBS true d [], r.length ≤ 5 := by
  intro r hr
  obtain ⟨c, hm, hf, rfl⟩ := ((qB7 h).2 r).1 hr
  have := ((h.ok c hm).fit hf).len
  have := hc.len
  omega
end Go.Proofs.YtpaccaojgbfjdaaDoor

