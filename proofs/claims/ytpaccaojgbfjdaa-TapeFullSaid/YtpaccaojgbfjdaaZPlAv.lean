/-
  The pure layer: an element of an array that is a value. No condition.
-/
import Derived.Test.YtpaccaojgbfjdaaZB
namespace Go.Proofs.Ytpaccaojgbfjdaa
set_option linter.unusedSimpArgs false
set_option linter.unusedVariables false
open Go.RowKit

section
variable {P : Program} {dst : Option Nat} {ty : TypeId} {e : Operand → A} {β : Bx} {T el : TypeId} {x y : Operand}
end
end Go.Proofs.Ytpaccaojgbfjdaa

