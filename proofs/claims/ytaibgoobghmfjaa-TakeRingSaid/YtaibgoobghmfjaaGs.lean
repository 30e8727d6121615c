/-
  The variables of packages that the walks read: none. No condition.
-/
import Derived.Test.YtaibgoobghmfjaaPlD
namespace Go.Proofs.Ytaibgoobghmfjaa
def Gs (_ : Nat) : Option (List D) := none
theorem Gs_none (g : Nat) : Gs g = none := rfl
end Go.Proofs.Ytaibgoobghmfjaa
