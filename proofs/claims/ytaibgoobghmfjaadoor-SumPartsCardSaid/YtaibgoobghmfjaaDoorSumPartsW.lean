/-
  The law SumParts as a call. No condition.
-/
import Derived.Test.YtaibgoobghmfjaaDoorSumParts
import Derived.Test.YtaibgoobghmfjaaDoorJoinD
namespace Go.Proofs.YtaibgoobghmfjaaDoor
open Go.RowKit
theorem sumParts_walk (A : Option Addr) (l : List UInt8) (c : Nat) (m n : Int) (w : World) (h : RdB w w.heap.size A l) (hc : l.length ≤ c) (_ : l.length ≤ 140737488355328) (_ : I64 m) (_ : I64 n) (hg : GlOk (Lt w) w) : Calls Tryd.prog 5 #[.slice A l.length c, .int .i64 m, .int .i64 n] w fun e w' => e = .returned (.bool true) ∧ Below w.heap.size w w' :=
  calls_of_pc (sumParts_pc l m n) (rep_cons (rep_by h hc) (rep_cons (rep_int w m) (rep_cons (rep_int w n) rfl))) hg
end Go.Proofs.YtaibgoobghmfjaaDoor
