/-
  ExprBack: an expression is read as it was shown.
-/
import Derived.Test.YtlpnnnmdkglkcaaDoorZParseE
import Derived.Test.YtlpnnnmdkglkcaaDoorZShow
import Derived.Test.YtlpnnnmdkglkcaaDoorZExprOf
import Derived.Test.YtlpnnnmdkglkcaaDoorZJoinD
set_option linter.unusedSimpArgs false
set_option linter.unusedVariables false
namespace Go.Proofs.YtlpnnnmdkglkcaaDoor
open Go.RowKit

section
variable {P : Program} {dst : Option Nat} {ty : TypeId} {e : Operand → A} {β : Bx} {T T' : TypeId} {x y : Operand} {m n : Int} {b : Bool}
end
theorem exprOf_toks (l : List Raw) (kind : Int) : ∃ (x : Ex) (n' : Nat), x.ok ∧ x.deep ≤ 7 ∧ x.num ≤ 15 ∧ n' ≤ 16 ∧ PG Tryd.prog 22 [.d (qBo l), .d (iD kind)] [] [] (.tu [.d (exD x), .d (qBr (colsH l)), .px 2000 0]) []
    [(2000, .var 83 [.d (qBo (l.take 40)), .d (iD n'), .d (qBr (colsH l))])] := by
  obtain ⟨x, n', hg, hn', g1⟩ := exprOf_pg l kind
  have hc : ColsOk (colsH l) := colsF_ok _
  have hdp := hg.deep
  have hnm : x.num + 1 ≤ 2 ^ 4 := hg.num
  rw [qEn] at g1
  exact ⟨x, n', hg.ok hc.name, by omega, by omega, hn', g1⟩
end Go.Proofs.YtlpnnnmdkglkcaaDoor

