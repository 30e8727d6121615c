/-
  TakeRing answers true. No condition.
-/
import Derived.Test.YtaibgoobghmfjaaLaw9
import Derived.Test.YtaibgoobghmfjaaJoin
namespace Go.Proofs.Ytaibgoobghmfjaa
set_option linter.unusedVariables false
open Go.RowKit

theorem rep_bool (w : World) (b : Bool) : RepD (Lt w) w (bD b) (.bool b) := ⟨rfl, rfl⟩
theorem takeRing_walk (a1 a2 : Int) (b3 : Bool) (w : World) (_w1 : I64 a1) (_w2 : I64 a2) :
    Calls Try.prog 4 #[.int .i64 a1, .int .i64 a2, .bool b3] w fun e w' => e = .returned (.bool true) ∧ Below w.heap.size w w' :=
  calls_of_pc (takeRing_pc a1 a2 b3) (rep_cons (rep_int w a1) (rep_cons (rep_int w a2) (rep_cons (rep_bool w b3) rfl)))
end Go.Proofs.Ytaibgoobghmfjaa
