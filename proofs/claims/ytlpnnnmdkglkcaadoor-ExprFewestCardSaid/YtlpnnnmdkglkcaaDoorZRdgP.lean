/-
  The reader of package expr fails as 'rd' says, at each level. No condition but the sizes and that the tokens may be.
-/
import Derived.Test.YtlpnnnmdkglkcaaDoorZRdfP
import Derived.Test.YtlpnnnmdkglkcaaDoorZRdg
set_option linter.unusedSimpArgs false
set_option linter.unusedVariables false
namespace Go.Proofs.YtlpnnnmdkglkcaaDoor
open Go.RowKit

structure LvN (T : List Tk) (R : Nat → Nat → Pr) : Prop where
  or : qBX 44 T (R 1)
  and : qBX 74 T (R 2)
  not : qBX 91 T (R 3)
  cmp : qBX 107 T (R 4)
  join : qBX 119 T (R 5)
  sum : qBX 127 T (R 6)
  times : qBX 131 T (R 7)
  sign : qBX 132 T (R 8)
  first : qBX 133 T (R 9)
theorem fails (T : List Tk) (hT : T.length ≤ 1000) (hok : ∀ t ∈ T, TkOk t) : ∀ f, LvN T (rd T f)
  | 0 => by
    have h : ∀ g lv, qBX g T (rd T 0 lv) := fun g lv i p e _ h => by cases h
    exact ⟨h _ _, h _ _, h _ _, h _ _, h _ _, h _ _, h _ _, h _ _, h _ _⟩
  | f + 1 => by
    have h := levels T hT hok f
    have b := fails T hT hok f
    exact ⟨or_pn hT h.and b.and, and_pn hT h.not b.not, not_pn hT b.not b.cmp, cmp_pn hT h.join b.join, join_pn hT h.sum b.sum, sum_pn hT h.times b.times, times_pn hT h.sign b.sign, sign_pn hT b.sign b.first, first_pn hT hok h.or b.or⟩
end Go.Proofs.YtlpnnnmdkglkcaaDoor

