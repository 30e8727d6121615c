/-
  One operation of two, evaluated. No program in sight.
-/
import Derived.Test.YtpaccaojgbfjdaaDoorZEvH
namespace Go.Proofs.YtpaccaojgbfjdaaDoor
set_option linter.unusedSimpArgs false
set_option linter.unusedVariables false
open Go.RowKit
open Go.Lib

theorem findA : findI aN 0 abC = some 0 := by decide
theorem findB : findI bN 0 abC = some 1 := by decide
theorem evA (a b : Int) : evF abC [numV a, numV b] (.col aN) = ⟨numV a, 0⟩ := by unfold evF; rw [findA]; rfl
theorem evB (a b : Int) : evF abC [numV a, numV b] (.col bN) = ⟨numV b, 0⟩ := by unfold evF; rw [findB]; rfl
theorem ev_bi {cols : List Cl} {row : List Vl} {op : Nat} {x y : Ex} {v w : Vl} (h1 : evF cols row x = ⟨v, 0⟩) (h2 : evF cols row y = ⟨w, 0⟩) (hs : shortB op v = false) : evF cols row (.bi op x y) = twoF op v w := by
  rw [evF, h1, h2]
  show (if (0 : Nat) = 0 then (if shortB op v = true then _ else if (0 : Nat) = 0 then twoF op v w else _) else _) = _
  rw [if_pos rfl, if_neg (by rw [hs]; decide), if_pos rfl]
theorem ev_bi_bad {cols : List Cl} {row : List Vl} {op : Nat} {x y : Ex} {e : Nat} (h1 : evF cols row x = .bad e) (he : e ≠ 0) : evF cols row (.bi op x y) = .bad e := by
  rw [evF, h1]
  exact if_neg he
theorem w64_of {n : Int} (h : I64 n) : w64 n = n := wrap64_of h.1 h.2
end Go.Proofs.YtpaccaojgbfjdaaDoor

