/-
  The order of two values; bits of 64: xor and and. No program in sight.
-/
import Derived.Test.YtlpnnnmdkglkcaaDoorZVal
import Derived.Test.YtlpnnnmdkglkcaaDoorZPick
namespace Go.Proofs.YtlpnnnmdkglkcaaDoor
set_option linter.unusedSimpArgs false
set_option linter.unusedVariables false
open Go.RowKit

def lessV (a b : Vl) : Bool := if (a.k != b.k) = true then decide (a.k < b.k) else if (a.k == 3) = true then fltV .lss a.b b.b else if (a.k == 4) = true then Op.bytesLess a.t.toList b.t.toList else decide (a.n < b.n)
def moreV (a b : Vl) : Bool := if (a.k != b.k) = true then decide (a.k > b.k) else if (a.k == 3) = true then fltV .gtr a.b b.b else if (a.k == 4) = true then !(Op.bytesLess a.t.toList b.t.toList || a.t.toList == b.t.toList) else decide (a.n > b.n)
def ordV (a b : Vl) : Int := if lessV a b = true then -1 else if moreV a b = true then 1 else 0
/-! ### reals -/
theorem u64_nat (n : Int) : ∃ x : Nat, x < 18446744073709551616 ∧ IntKind.u64.wrap n = (x : Int) := by
  refine ⟨(n % 18446744073709551616).toNat, by omega, ?_⟩
  have : IntKind.u64.wrap n = n % 18446744073709551616 := by rw [IntKind.wrap_u64]
  rw [this]; omega
theorem xor_nat (x y : Nat) (hx : x < 18446744073709551616) (hy : y < 18446744073709551616) : bitV .xor .u64 (x : Int) (y : Int) = ((x ^^^ y : Nat) : Int) ∧ x ^^^ y < 18446744073709551616 := by
  have hz : x ^^^ y < 2 ^ 64 := Nat.xor_lt_two_pow (by omega) (by omega)
  have e : ∀ z : Nat, z < 18446744073709551616 → (BitVec.ofInt 64 (z : Int)).toNat = z := fun z hz => by rw [BitVec.ofInt_natCast, BitVec.toNat_ofNat]; exact Nat.mod_eq_of_lt (by omega)
  refine ⟨?_, by omega⟩
  show IntKind.u64.wrap ((BitVec.ofInt 64 (x : Int) ^^^ BitVec.ofInt 64 (y : Int)).toNat : Int) = _
  rw [BitVec.toNat_xor, e x hx, e y hy, IntKind.wrap_u64]
  omega
theorem and_nat (x y : Nat) (hx : x < 18446744073709551616) (hy : y < 18446744073709551616) : bitV .and .u64 (x : Int) (y : Int) = ((x &&& y : Nat) : Int) := by
  have hz : x &&& y ≤ x := Nat.and_le_left
  have e : ∀ z : Nat, z < 18446744073709551616 → (BitVec.ofInt 64 (z : Int)).toNat = z := fun z hz => by rw [BitVec.ofInt_natCast, BitVec.toNat_ofNat]; exact Nat.mod_eq_of_lt (by omega)
  show IntKind.u64.wrap ((BitVec.ofInt 64 (x : Int) &&& BitVec.ofInt 64 (y : Int)).toNat : Int) = _
  rw [BitVec.toNat_and, e x hx, e y hy, IntKind.wrap_u64]
  omega
end Go.Proofs.YtlpnnnmdkglkcaaDoor

