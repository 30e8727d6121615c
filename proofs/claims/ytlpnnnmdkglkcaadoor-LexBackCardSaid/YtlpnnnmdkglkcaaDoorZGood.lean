/-
  Values that may be, and their order. Plain laws.
-/
import Derived.Test.YtlpnnnmdkglkcaaDoorZOrdV
set_option linter.unusedSimpArgs false
set_option linter.unusedVariables false
namespace Go.Proofs.YtlpnnnmdkglkcaaDoor

inductive Gd : Vl → Prop where
  | null : Gd ⟨0, 0, 0, .empty⟩
  | bool (n : Int) (h : n = 0 ∨ n = 1) : Gd ⟨1, n, 0, .empty⟩
  | int (n : Int) : Gd ⟨2, n, 0, .empty⟩
  | real (b : Nat) (h1 : b < 18446744073709551616) (h2 : finF b) (h3 : b ≠ 9223372036854775808) : Gd ⟨3, 0, b, .empty⟩
  | text (t : ByteArray) (h1 : t.size ≤ 40) (h2 : Lib.validD t.data.toList = true) : Gd ⟨4, 0, 0, t⟩
theorem Gd.size {v : Vl} (h : Gd v) : v.t.size ≤ 40 := by
  cases h with
  | text t h1 h2 => exact h1
  | _ => exact Nat.zero_le _
theorem emp_eq : (ByteArray.empty.toList == (⟨#[]⟩ : ByteArray).toList) = true := beq_self_eq_true _
theorem fltV_eql {a b : Nat} (ha : finF a) (hb : finF b) : fltV .eql a b = decide (keyF a = keyF b) := by
  unfold fltV
  rw [order_key ha hb]
  rcases Int.lt_trichotomy (keyF a) (keyF b) with h | h | h
  · simp [compare, compareOfLessAndEq, h, show ¬ keyF a = keyF b by omega]
  · simp [compare, compareOfLessAndEq, h]
  · simp [compare, compareOfLessAndEq, show ¬ keyF a < keyF b by omega, show ¬ keyF a = keyF b by omega]
theorem Gd.chk {v : Vl} (h : Gd v) : chkV v = 0 := by
  cases h with
  | null =>
    have e3 : Vl.b3 ⟨0, 0, 0, .empty⟩ = false := by unfold Vl.b3; simp [emp_eq]
    unfold chkV
    rw [if_neg (by decide), if_neg (by decide), if_neg (by rw [e3]; decide), if_neg (by decide), if_neg (by decide), if_neg (by decide)]
  | bool n hn =>
    have e3 : Vl.b3 ⟨1, n, 0, .empty⟩ = false := by unfold Vl.b3; simp [emp_eq]
    have e4 : Vl.b4 ⟨1, n, 0, .empty⟩ = false := by unfold Vl.b4; rcases hn with rfl | rfl <;> rfl
    unfold chkV
    rw [if_neg (by unfold Vl.b1; simp), if_neg (by unfold Vl.b2; simp), if_neg (by rw [e3]; decide), if_pos (by rfl), if_neg (by rw [e4]; decide)]
  | int n =>
    have e3 : Vl.b3 ⟨2, n, 0, .empty⟩ = false := by unfold Vl.b3; simp [emp_eq]
    unfold chkV
    rw [if_neg (by unfold Vl.b1; simp), if_neg (by unfold Vl.b2; simp), if_neg (by rw [e3]; decide), if_neg (by simp), if_neg (by simp), if_neg (by simp)]
  | real b h1 h2 h3 =>
    have e3 : Vl.b3 ⟨3, 0, b, .empty⟩ = false := by unfold Vl.b3; simp [emp_eq]
    have e5 : Vl.b5 ⟨3, 0, b, .empty⟩ = false := by
      unfold Vl.b5
      dsimp only
      rw [fltV_self h2, Bool.false_or]
      cases he : fltV .eql b 0 with
      | false => rfl
      | true =>
        rw [fltV_eql h2 (by unfold finF rung; omega)] at he
        have := keyF_inj (b := 0) h1 (by omega) h3 (by omega) (of_decide_eq_true he)
        subst this
        rfl
    unfold chkV
    rw [if_neg (by unfold Vl.b1; simp), if_neg (by unfold Vl.b2; simp), if_neg (by rw [e3]; decide), if_neg (by simp), if_pos (by rfl), if_neg (by rw [e5]; decide)]
  | text t h1 h2 =>
    have e3 : Vl.b3 ⟨4, 0, 0, t⟩ = false := by unfold Vl.b3; simp
    have e6 : Vl.b6 ⟨4, 0, 0, t⟩ = false := by unfold Vl.b6; rw [h2]; rfl
    unfold chkV
    rw [if_neg (by unfold Vl.b1; simp), if_neg (by unfold Vl.b2; simp; omega), if_neg (by rw [e3]; decide), if_neg (by simp), if_neg (by simp), if_pos (by rfl), if_neg (by rw [e6]; decide)]
end Go.Proofs.YtlpnnnmdkglkcaaDoor

