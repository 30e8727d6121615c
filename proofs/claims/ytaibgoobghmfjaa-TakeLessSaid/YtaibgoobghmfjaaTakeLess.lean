/-
  TakeLess answers true. No condition.
-/
import Derived.Test.YtaibgoobghmfjaaLaw8
import Derived.Test.YtaibgoobghmfjaaJoin
namespace Go.Proofs.Ytaibgoobghmfjaa
set_option linter.unusedVariables false
open Go.RowKit

theorem takeLess_walk (A0 : Option Addr) (l0 : List Raw) (c0 : Nat) (a1 a2 a3 a4 : Int) (w : World) (r0 : RdR w w.heap.size A0 l0) (k0 : l0.length ≤ c0) (m0 : c0 * 40 ≤ 140737488351232) (hok : ∀ r ∈ l0, r.ok) (_w1 : I64 a1) (_w2 : I64 a2) (_w3 : I64 a3) (_w4 : I64 a4) :
    Calls Try.prog 3 #[.slice A0 l0.length c0, .int .i64 a1, .int .i64 a2, .int .i64 a3, .int .i64 a4] w fun e w' => e = .returned (.bool true) ∧ Below w.heap.size w w' :=
  calls_of_pc (takeLess_pc l0 a1 a2 a3 a4) (rep_cons (rep_raws r0 k0) (rep_cons (rep_int w a1) (rep_cons (rep_int w a2) (rep_cons (rep_int w a3) (rep_cons (rep_int w a4) rfl)))))
end Go.Proofs.Ytaibgoobghmfjaa
