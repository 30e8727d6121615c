/-
  chirograph/table: Delete as a contract, where the condition fails in no row.
-/
import Derived.Test.YtpaccaojgbfjdaaDoorZW
set_option linter.unusedSimpArgs false
set_option linter.unusedVariables false
namespace Go.Proofs.YtpaccaojgbfjdaaDoor
open Go.RowKit

end Go.Proofs.YtpaccaojgbfjdaaDoor

