/-
  chirographkeep.tokensOf: tokens that may be, of raw things. No condition.
-/
import Derived.Test.YtlpnnnmdkglkcaaDoorZTokOf
set_option linter.unusedSimpArgs false
set_option linter.unusedVariables false
namespace Go.Proofs.YtlpnnnmdkglkcaaDoor
open Go.RowKit

end Go.Proofs.YtlpnnnmdkglkcaaDoor

