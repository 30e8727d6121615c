/-
  Eight bytes tell a number; open salts are unlike. Plain laws.
-/
import Derived.Test.YtagbajdjpfafoaaDoorZSalt
import Derived.Test.YtagbajdjpfafoaaDoorZF
namespace Go.Proofs.YtagbajdjpfafoaaDoor
set_option linter.unusedSimpArgs false
set_option linter.unusedVariables false

theorem eightB_eq {m n : Int} (hm : -9223372036854775808 ≤ m ∧ m ≤ 9223372036854775807) (hn : -9223372036854775808 ≤ n ∧ n ≤ 9223372036854775807) (h : eightB m = eightB n) : m = n := by
  unfold eightB at h
  obtain ⟨h1, h2⟩ := List.append_inj h rfl
  have a1 := fourB_eq h1
  have a2 := fourB_eq h2
  omega
theorem saltO_iff {s : List UInt8} (hs : s.length ≤ 16) {a b c d : Int} (ha : -9223372036854775808 ≤ a ∧ a ≤ 9223372036854775807) (hb : -9223372036854775808 ≤ b ∧ b ≤ 9223372036854775807) (hc : -9223372036854775808 ≤ c ∧ c ≤ 9223372036854775807) (hd : -9223372036854775808 ≤ d ∧ d ≤ 9223372036854775807) : saltO s a b = saltO s c d ↔ a = c ∧ b = d := by
  constructor
  · intro h
    have hsz : ∀ (x y : Int), ∀ p ∈ [s, eightB x, eightB y], p.length < 4294967296 := fun x y p hp => by
      simp only [List.mem_cons, List.not_mem_nil, or_false] at hp
      rcases hp with rfl | rfl | rfl
      · omega
      · rw [eightB_len]; omega
      · rw [eightB_len]; omega
    have h1 := (frameB_inj (by simp) (by simp) (hsz a b) (hsz c d) h).2
    simp only [List.cons.injEq, and_true, true_and] at h1
    exact ⟨eightB_eq ha hc h1.1, eightB_eq hb hd h1.2⟩
  · rintro ⟨rfl, rfl⟩; rfl
theorem saltO_len (s : List UInt8) (a b : Int) : (saltO s a b).length = 30 + s.length := by
  unfold saltO
  rw [frameB_len]
  simp only [sumL, List.map_cons, List.map_nil, List.sum_cons, List.sum_nil, eightB_len]
  omega
end Go.Proofs.YtagbajdjpfafoaaDoor
