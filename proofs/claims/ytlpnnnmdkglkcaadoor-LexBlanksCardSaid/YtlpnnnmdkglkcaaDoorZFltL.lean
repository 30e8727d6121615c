/-
  Floats of 64 bits that are numbers stand as their rungs stand. Plain laws, no program in sight.
-/
import Derived.Test.YtlpnnnmdkglkcaaDoorZG
namespace Go.Proofs.YtlpnnnmdkglkcaaDoor
set_option linter.unusedSimpArgs false
set_option linter.unusedVariables false

/-- The rung, and the number on it in units of the least place. -/
def rung (b : Nat) : Nat := b % 9223372036854775808
def sgnF (b : Nat) : Bool := b / 9223372036854775808 % 2 == 1
def magF (r : Nat) : Nat := if r < 4503599627370496 then r else 4503599627370496 + r % 4503599627370496
def expF (r : Nat) : Nat := if r < 4503599627370496 then 0 else r / 4503599627370496 - 1
def valN (r : Nat) : Nat := magF r * 2 ^ expF r
def finF (b : Nat) : Prop := rung b < 9218868437227405312
theorem valN_mono {r s : Nat} (h : r < s) : valN r < valN s := by
  have p1 := Nat.two_pow_pos (expF r)
  have p2 := Nat.two_pow_pos (expF s)
  unfold valN
  by_cases hr : r < 4503599627370496
  · have e1 : magF r = r := by unfold magF; rw [if_pos hr]
    have e2 : expF r = 0 := by unfold expF; rw [if_pos hr]
    rw [e1, e2, Nat.pow_zero, Nat.mul_one]
    by_cases hs : s < 4503599627370496
    · have e3 : magF s = s := by unfold magF; rw [if_pos hs]
      have e4 : expF s = 0 := by unfold expF; rw [if_pos hs]
      rw [e3, e4, Nat.pow_zero, Nat.mul_one]
      exact h
    · have e3 : 4503599627370496 ≤ magF s := by unfold magF; rw [if_neg hs]; omega
      calc r < 4503599627370496 := hr
        _ ≤ magF s := e3
        _ ≤ magF s * 2 ^ expF s := Nat.le_mul_of_pos_right _ p2
  · have hs : ¬ s < 4503599627370496 := by omega
    have e1 : magF r = 4503599627370496 + r % 4503599627370496 := by unfold magF; rw [if_neg hr]
    have e2 : expF r = r / 4503599627370496 - 1 := by unfold expF; rw [if_neg hr]
    have e3 : magF s = 4503599627370496 + s % 4503599627370496 := by unfold magF; rw [if_neg hs]
    have e4 : expF s = s / 4503599627370496 - 1 := by unfold expF; rw [if_neg hs]
    by_cases hq : r / 4503599627370496 = s / 4503599627370496
    · have : expF r = expF s := by rw [e2, e4, hq]
      rw [this]
      exact Nat.mul_lt_mul_of_pos_right (by rw [e1, e3]; omega) p2
    · have hlt : r / 4503599627370496 < s / 4503599627370496 := by omega
      have h1 : 1 ≤ r / 4503599627370496 := by omega
      have hexp : expF r + 1 ≤ expF s := by rw [e2, e4]; omega
      have hpow : 2 ^ (expF r + 1) ≤ 2 ^ expF s := Nat.pow_le_pow_right (by omega) hexp
      have hm1 : magF r < 4503599627370496 * 2 := by rw [e1]; omega
      have hm2 : 4503599627370496 ≤ magF s := by rw [e3]; omega
      calc magF r * 2 ^ expF r < 4503599627370496 * 2 * 2 ^ expF r := Nat.mul_lt_mul_of_pos_right hm1 p1
        _ = 4503599627370496 * 2 ^ (expF r + 1) := by rw [Nat.pow_succ, Nat.mul_assoc, Nat.mul_comm 2]
        _ ≤ 4503599627370496 * 2 ^ expF s := Nat.mul_le_mul_left _ hpow
        _ ≤ magF s * 2 ^ expF s := Nat.mul_le_mul_right _ hm2
theorem valN_lt {r s : Nat} : valN r < valN s ↔ r < s := by
  constructor
  · intro h
    rcases Nat.lt_trichotomy r s with h1 | h1 | h1
    · exact h1
    · subst h1; exact absurd h (Nat.lt_irrefl _)
    · have := valN_mono h1; omega
  · exact valN_mono
theorem valN_zero : valN 0 = 0 := rfl
/-- The number that a word stands for, in units of the least place. -/
def keyF (b : Nat) : Int := if sgnF b = true then -(valN (rung b) : Int) else (valN (rung b) : Int)
theorem read_of {b : Nat} (h : finF b) : FloatKind.f64.format.read b = .number (sgnF b) (magF (rung b)) (-1074 + (expF (rung b) : Int)) := by
  have e1 : FloatKind.f64.format = Ieee.double := rfl
  have e2 : Ieee.double.signWeight = 9223372036854775808 := rfl
  have e3 : Ieee.double.binade = 4503599627370496 := rfl
  have e4 : Ieee.double.infRung = 9218868437227405312 := rfl
  have e5 : Ieee.double.leastPlace = -1074 := rfl
  unfold finF rung at h
  unfold Ieee.Format.read
  rw [e1]
  simp only [e2, e3, e4, e5]
  unfold magF expF rung sgnF
  by_cases h1 : b % 9223372036854775808 < 4503599627370496
  · rw [if_pos h1, if_pos h1, if_pos h1]
    simp
  · rw [if_neg h1, if_pos h, if_neg h1, if_neg h1]
theorem cmp_scale {a b : Int} {k : Nat} (hk : 0 < k) : compare (a * (k : Int)) (b * (k : Int)) = compare a b := by
  have hk2 : (0 : Int) < (k : Int) := by omega
  rcases Int.lt_trichotomy a b with h | h | h
  · have : a * (k : Int) < b * (k : Int) := Int.mul_lt_mul_of_pos_right h hk2
    simp only [compare, compareOfLessAndEq, if_pos h, if_pos this]
  · subst h; simp [compare, compareOfLessAndEq]
  · have : b * (k : Int) < a * (k : Int) := Int.mul_lt_mul_of_pos_right h hk2
    simp only [compare, compareOfLessAndEq, if_neg (show ¬ a < b by omega), if_neg (show ¬ a * (k : Int) < b * (k : Int) by omega), if_neg (show ¬ a = b by omega), if_neg (show ¬ a * (k : Int) = b * (k : Int) by omega)]
theorem order_key {a b : Nat} (ha : finF a) (hb : finF b) : FloatKind.f64.format.order a b = some (compare (keyF a) (keyF b)) := by
  unfold Ieee.Format.order
  rw [read_of ha, read_of hb]
  unfold Ieee.Datum.order
  dsimp only
  obtain ⟨x, hx⟩ : ∃ x, expF (rung a) = x := ⟨_, rfl⟩
  obtain ⟨y, hy⟩ : ∃ y, expF (rung b) = y := ⟨_, rfl⟩
  rw [hx, hy]
  congr 1
  have key : ∀ (s : Bool) (m d k : Nat), Ieee.signed s m d * ((2 ^ k : Nat) : Int) = if s = true then -((m * 2 ^ (d + k) : Nat) : Int) else ((m * 2 ^ (d + k) : Nat) : Int) := by
    intro s m d k
    unfold Ieee.signed
    have e : m * 2 ^ (d + k) = (m <<< d) * 2 ^ k := by rw [Nat.shiftLeft_eq, Nat.pow_add, Nat.mul_assoc]
    rw [e]
    cases s
    · simp
    · simp [Int.neg_mul]
  obtain ⟨k, hk⟩ : ∃ k, min x y = k := ⟨_, rfl⟩
  have d1 : ((-1074 + (x : Int)) - min (-1074 + (x : Int)) (-1074 + (y : Int))).toNat = x - k := by omega
  have d2 : ((-1074 + (y : Int)) - min (-1074 + (x : Int)) (-1074 + (y : Int))).toNat = y - k := by omega
  rw [d1, d2, ← cmp_scale (k := 2 ^ k) (Nat.two_pow_pos k), key, key, show x - k + k = x by omega, show y - k + k = y by omega]
  unfold keyF valN
  rw [hx, hy]
theorem keyF_inj {a b : Nat} (ha : a < 18446744073709551616) (hb : b < 18446744073709551616) (za : a ≠ 9223372036854775808) (zb : b ≠ 9223372036854775808) (h : keyF a = keyF b) : a = b := by
  have inj : ∀ r s, valN r = valN s → r = s := fun r s h => by
    rcases Nat.lt_trichotomy r s with h1 | h1 | h1
    · have := valN_mono h1; omega
    · exact h1
    · have := valN_mono h1; omega
  have pos : ∀ r, valN r = 0 → r = 0 := fun r h => inj r 0 (h.trans valN_zero.symm)
  unfold keyF at h
  have sa : sgnF a = true ↔ 9223372036854775808 ≤ a := by unfold sgnF; simp; omega
  have sb : sgnF b = true ↔ 9223372036854775808 ≤ b := by unfold sgnF; simp; omega
  have ra : a = rung a + (if sgnF a = true then 9223372036854775808 else 0) := by
    unfold rung
    split
    · rename_i h1; have := sa.1 h1; omega
    · rename_i h1; have : ¬ 9223372036854775808 ≤ a := fun h2 => h1 (sa.2 h2); omega
  have rb : b = rung b + (if sgnF b = true then 9223372036854775808 else 0) := by
    unfold rung
    split
    · rename_i h1; have := sb.1 h1; omega
    · rename_i h1; have : ¬ 9223372036854775808 ≤ b := fun h2 => h1 (sb.2 h2); omega
  by_cases h1 : sgnF a = true <;> by_cases h2 : sgnF b = true
  · rw [if_pos h1, if_pos h2] at h
    have := inj (rung a) (rung b) (by omega)
    rw [if_pos h1] at ra
    rw [if_pos h2] at rb
    omega
  · rw [if_pos h1, if_neg h2] at h
    have := pos (rung a) (by omega)
    rw [if_pos h1] at ra
    omega
  · rw [if_neg h1, if_pos h2] at h
    have := pos (rung b) (by omega)
    rw [if_pos h2] at rb
    omega
  · rw [if_neg h1, if_neg h2] at h
    have := inj (rung a) (rung b) (by omega)
    rw [if_neg h1] at ra
    rw [if_neg h2] at rb
    omega
theorem fltV_lss {a b : Nat} (ha : finF a) (hb : finF b) : fltV .lss a b = decide (keyF a < keyF b) := by
  unfold fltV
  rw [order_key ha hb]
  rcases Int.lt_trichotomy (keyF a) (keyF b) with h | h | h
  · simp [compare, compareOfLessAndEq, h]
  · simp [compare, compareOfLessAndEq, h]
  · simp [compare, compareOfLessAndEq, show ¬ keyF a < keyF b by omega, show ¬ keyF a = keyF b by omega]
theorem fltV_gtr {a b : Nat} (ha : finF a) (hb : finF b) : fltV .gtr a b = decide (keyF a > keyF b) := by
  unfold fltV
  rw [order_key ha hb]
  rcases Int.lt_trichotomy (keyF a) (keyF b) with h | h | h
  · simp [compare, compareOfLessAndEq, h, show ¬ keyF b < keyF a by omega]
  · simp [compare, compareOfLessAndEq, h]
  · simp [compare, compareOfLessAndEq, show ¬ keyF a < keyF b by omega, show ¬ keyF a = keyF b by omega, h]
theorem fltV_self {a : Nat} (ha : finF a) : fltV .neq a a = false := by
  unfold fltV
  rw [order_key ha ha]
  simp [compare, compareOfLessAndEq]
end Go.Proofs.YtlpnnnmdkglkcaaDoor

