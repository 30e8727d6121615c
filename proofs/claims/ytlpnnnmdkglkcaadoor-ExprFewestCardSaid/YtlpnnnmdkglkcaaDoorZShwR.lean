/-
  An expression is read as it was shown, wherever it stands, if what stands qEv it does not go on with it. No program in sight.
-/
import Derived.Test.YtlpnnnmdkglkcaaDoorZShw
set_option linter.unusedSimpArgs false
set_option linter.unusedVariables false
namespace Go.Proofs.YtlpnnnmdkglkcaaDoor

end Go.Proofs.YtlpnnnmdkglkcaaDoor

