/-
  GiveTake answers true. No condition.
-/
import Derived.Test.YtaibgoobghmfjaaLaw5
import Derived.Test.YtaibgoobghmfjaaJoin
namespace Go.Proofs.Ytaibgoobghmfjaa
set_option linter.unusedVariables false
open Go.RowKit

theorem giveTake_walk (A0 : Option Addr) (l0 : List Raw) (c0 : Nat) (a1 : Raw) (w : World) (r0 : RdR w w.heap.size A0 l0) (k0 : l0.length ≤ c0) (m0 : c0 * 40 ≤ 140737488351232) (hok : ∀ r ∈ l0, r.ok) (_w1 : a1.ok) :
    Calls Try.prog 5 #[.slice A0 l0.length c0, .agg #[.int .i64 a1.kind, .int .i64 a1.a, .int .i64 a1.b, .string a1.text]] w fun e w' => e = .returned (.bool true) ∧ Below w.heap.size w w' :=
  calls_of_pc (giveTake_pc l0 a1) (rep_cons (rep_raws r0 k0) (rep_cons (rep_raw w a1) rfl))
end Go.Proofs.Ytaibgoobghmfjaa
