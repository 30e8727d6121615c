/-
  The reader of package expr reads as 'rd' says, at each level. No condition but the sizes and that the tokens may be.
-/
import Derived.Test.YtlpnnnmdkglkcaaDoorZRdf
set_option linter.unusedSimpArgs false
set_option linter.unusedVariables false
namespace Go.Proofs.YtlpnnnmdkglkcaaDoor
open Go.RowKit

structure LvP (T : List Tk) (R : Nat → Nat → Pr) : Prop where
  or : qBJ 44 T (R 1)
  and : qBJ 74 T (R 2)
  not : qBJ 91 T (R 3)
  cmp : qBJ 107 T (R 4)
  join : qBJ 119 T (R 5)
  sum : qBJ 127 T (R 6)
  times : qBJ 131 T (R 7)
  sign : qBJ 132 T (R 8)
  first : qBJ 133 T (R 9)
theorem levels (T : List Tk) (hT : T.length ≤ 1000) (hok : ∀ t ∈ T, TkOk t) : ∀ f, LvP T (rd T f)
  | 0 => by
    have h : ∀ g lv, qBJ g T (rd T 0 lv) := fun g lv i x j _ h => by cases h
    exact ⟨h _ _, h _ _, h _ _, h _ _, h _ _, h _ _, h _ _, h _ _, h _ _⟩
  | f + 1 => by
    have h := levels T hT hok f
    exact ⟨or_px hT h.and, and_px hT h.not, not_px hT h.not h.cmp, cmp_px hT h.join, join_px hT h.sum, sum_px hT h.times, times_px hT h.sign, sign_px hT h.sign h.first, first_px hT hok h.or⟩
end Go.Proofs.YtlpnnnmdkglkcaaDoor

