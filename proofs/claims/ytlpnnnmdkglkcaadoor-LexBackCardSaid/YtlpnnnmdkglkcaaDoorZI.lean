/-
  What chirographkeep's heap of raw things makes: columns, raw things, literals and columns of an expression. No program in sight.
-/
import Derived.Test.YtlpnnnmdkglkcaaDoorZEx
import Derived.Test.YtlpnnnmdkglkcaaDoorZD
import Derived.Test.YtlpnnnmdkglkcaaDoorZA
import Derived.Test.YtlpnnnmdkglkcaaDoorZJ
import Derived.Test.YtlpnnnmdkglkcaaDoorZG
import Derived.Test.YtlpnnnmdkglkcaaDoorZC
set_option linter.unusedSimpArgs false
set_option linter.unusedVariables false
namespace Go.Proofs.YtlpnnnmdkglkcaaDoor
open Go.RowKit

theorem mask_nn (a : Int) : 0 ≤ bitV .and .i64 a 9223372036854775807 ∧ bitV .and .i64 a 9223372036854775807 ≤ 9223372036854775807 := by
  show 0 ≤ IntKind.i64.wrap ((BitVec.ofInt 64 a &&& BitVec.ofInt 64 9223372036854775807).toNat : Int) ∧ IntKind.i64.wrap ((BitVec.ofInt 64 a &&& BitVec.ofInt 64 9223372036854775807).toNat : Int) ≤ 9223372036854775807
  have h : (BitVec.ofInt 64 a &&& BitVec.ofInt 64 9223372036854775807).toNat ≤ 9223372036854775807 := by
    rw [BitVec.toNat_and]
    exact Nat.le_trans Nat.and_le_right (by decide)
  rw [qC1 (by omega) (by omega)]
  omega
end Go.Proofs.YtlpnnnmdkglkcaaDoor


/-
  chirographkeep's heap of raw things: Cols, next, leaf, op1, op2 as contracts. No condition but the sizes.
-/
namespace Go.Proofs.YtlpnnnmdkglkcaaDoor
open Go.RowKit

section
variable {P : Program} {fr : Nat} {dst : Option Nat} {ty : TypeId} {e : Operand → A} {β : Bx}
end
end Go.Proofs.YtlpnnnmdkglkcaaDoor

