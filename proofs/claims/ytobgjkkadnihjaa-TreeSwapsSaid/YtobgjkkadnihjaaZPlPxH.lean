/-
  The pure layer: contracts whose result has slices of its own in it, new ones (PG, with nothing frozen). No condition.
-/
import Derived.Test.YtobgjkkadnihjaaZG
namespace Go.Proofs.Ytobgjkkadnihjaa
set_option linter.unusedSimpArgs false
set_option linter.unusedVariables false
open Go.RowKit

section
variable {P : Program}
variable {rs : List ResultVar} {s : St} {r : A} {al : List A} {V' R' : Bx}
end
end Go.Proofs.Ytobgjkkadnihjaa

