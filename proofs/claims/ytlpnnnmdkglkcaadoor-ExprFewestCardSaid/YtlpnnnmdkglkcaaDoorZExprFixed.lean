/-
  ExprFixed. No condition.
-/
import Derived.Test.YtlpnnnmdkglkcaaDoorZParseP
import Derived.Test.YtlpnnnmdkglkcaaDoorZTokL
import Derived.Test.YtlpnnnmdkglkcaaDoorZShow
import Derived.Test.YtlpnnnmdkglkcaaDoorZJoinD
set_option linter.unusedSimpArgs false
set_option linter.unusedVariables false
namespace Go.Proofs.YtlpnnnmdkglkcaaDoor
open Go.RowKit

section
variable {P : Program} {dst : Option Nat} {ty : TypeId} {e : Operand → A} {β : Bx} {T T' : TypeId} {x y : Operand} {m n : Int} {b : Bool}
theorem qC8 (hd : decide (m > n) = b) (hx : e x = .d (iD m)) (hy : e y = .d (iD n)) : Does P dst (.binOp .gtr T x y T') ty e β (.d (bD b)) [] [] := by
  subst hd; exact qBm hx hy
end
end Go.Proofs.YtlpnnnmdkglkcaaDoor

