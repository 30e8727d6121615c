/-
  The law SumKnown as a call. No condition.
-/
import Derived.Test.YtaibgoobghmfjaaDoorKnown
import Derived.Test.YtaibgoobghmfjaaDoorJoinD
namespace Go.Proofs.YtaibgoobghmfjaaDoor
open Go.RowKit
theorem sumKnown_walk (n : Int) (w : World) (hn : I64 n) (hg : GlOk (Lt w) w) : Calls Tryd.prog 3 #[.int .i64 n] w fun e w' => e = .returned (.bool true) ∧ Below w.heap.size w w' :=
  calls_of_pc (sumKnown_pc n) (rep_cons (rep_int w n) rfl) hg
end Go.Proofs.YtaibgoobghmfjaaDoor
