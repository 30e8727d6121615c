/-
  value.both, order, Compare; chirographkeep.real, ValOf, Val as contracts. No condition but the sizes.
-/
import Derived.Test.YtpaccaojgbfjdaaDoorZOrdV
set_option linter.unusedSimpArgs false
set_option linter.unusedVariables false
namespace Go.Proofs.YtpaccaojgbfjdaaDoor
open Go.RowKit

theorem both_pc (a b : Vl) (ha : a.t.size ≤ 9223372036854775807) (hb : b.t.size ≤ 9223372036854775807) (oa : chkV a = 0) (ob : chkV b = 0) : PC Tryd.prog 153 [.ag a.cs, .ag b.cs] (iD 0) := by
  have c1 := qEj a ha
  have c2 := qEj b hb
  rw [oa] at c1
  rw [ob] at c2
  obtain ⟨ak, an, ab, at_⟩ := a
  obtain ⟨bk, bn, bb, bt⟩ := b
  unfold Vl.cs at *
  refine qAs Tryd.func153 rfl (by kernel_rfl) mixed (by kernel_rfl) (qle (by kernel_rfl)) Tryd.results153 ?_
  repeat (first | (with_reducible first | apply qAj | apply qAi | apply qAh | apply qAf) | ((with_reducible apply rp); first | ((with_reducible apply qAg); eq_refl; eq_refl; exact (c1); eq_refl) | ((with_reducible apply qAd); (conv => lhs; whnf)) | ((with_reducible apply qAa); (conv => lhs; whnf)) | ((with_reducible apply qAl); exact tyOk rfl; (iterate 3 eq_refl); exact qle rfl; eq_refl) | ((with_reducible apply qAU); eq_refl; eq_refl)) | ((with_reducible apply rp1); ((with_reducible apply qAp); eq_refl; eq_refl)))
  refine qAn rfl (fun h => absurd h (by decide)) (fun h => ?_)
  repeat (first | (with_reducible first | apply qAj | apply qAi | apply qAh | apply qAf | apply qAu | apply qAz | apply qAm) | ((with_reducible apply rp); first | ((with_reducible apply qAg); eq_refl; eq_refl; exact (c2); eq_refl) | ((with_reducible apply qAa); (conv => lhs; whnf)) | ((with_reducible apply qAl); exact tyOk rfl; (iterate 3 eq_refl); exact qle rfl; eq_refl)))
  (with_reducible apply qAA); (focus (repeat' (first | (with_reducible apply qAv) | (with_reducible apply qAq) | ((with_reducible apply qAD); eq_refl)))); eq_refl; refine SubD.of_eq ?_
  rfl
set_option maxHeartbeats 2000000 in
theorem order_pc (a b : Vl) : PC Tryd.prog 154 [.ag a.cs, .ag b.cs] (iD (ordV a b)) := by
  unfold ordV
  have fin : ∀ x y : Bool, lessV a b = x → moreV a b = y → True := fun _ _ _ _ => trivial
  refine qAs Tryd.func154 rfl (by kernel_rfl) mixed (by kernel_rfl) (qle (by kernel_rfl)) Tryd.results154 ?_
  repeat (first | (with_reducible first | apply qAj | apply qAi | apply qAh | apply qAf | apply qAo) | ((with_reducible apply rp); first | ((with_reducible apply qAa); (conv => lhs; whnf)) | ((with_reducible apply qAc); exact tyOk rfl; eq_refl; eq_refl; decide; eq_refl) | ((with_reducible apply qAe); exact tyOk rfl; (iterate 4 eq_refl)) | ((with_reducible apply qAU); eq_refl; eq_refl)) | ((with_reducible apply rp1); ((with_reducible apply qAp); eq_refl; eq_refl)))
  refine qAn rfl (fun h1 => ?_) (fun h1 => ?_)
  · have el : lessV a b = decide (a.k < b.k) := by unfold lessV; rw [if_pos h1]
    have em : moreV a b = decide (a.k > b.k) := by unfold moreV; rw [if_pos h1]
    rw [el, em]
    repeat (first | (with_reducible first | apply qAj | apply qAi | apply qAh | apply qAf | apply qA4 | apply qAF) | ((with_reducible apply qBg); (first | kernel_rfl | eq_refl)) | ((with_reducible first | apply rp | apply dr); first | ((with_reducible first | apply qAd | apply qAa); (conv => lhs; whnf)) | ((with_reducible first | apply qAc | apply qAe | apply qAN | apply qBH) <;> first | ((with_reducible apply tyOk); eq_refl) | eq_refl | decide)))
    refine qAn rfl (fun h2 => ?_) (fun h2 => ?_)
    · rw [if_pos h2]
      repeat (first | (with_reducible first | apply qAj | apply qAi | apply qAh | apply qAf | apply qAu | apply qAS | apply qAz) | ((with_reducible apply rp); ((with_reducible apply qAa); (conv => lhs; whnf))))
      (with_reducible apply qAA); (focus (repeat' (first | (with_reducible apply qAv) | (with_reducible apply qAq) | ((with_reducible apply qAD); eq_refl)))); eq_refl; refine SubD.of_eq ?_
      rfl
    rw [if_neg (by rw [h2]; decide)]
    repeat (first | (with_reducible first | apply qAj | apply qAi | apply qAh | apply qAf | apply qAm) | ((with_reducible apply rp); ((with_reducible apply qAd); (conv => lhs; whnf))))
    refine qAn rfl (fun h3 => ?_) (fun h3 => ?_)
    · rw [if_pos h3]
      repeat (first | (with_reducible first | apply qAj | apply qAi | apply qAh | apply qAf | apply qAu | apply qAS | apply qAz) | ((with_reducible apply rp); ((with_reducible apply qAa); (conv => lhs; whnf))))
      (with_reducible apply qAA); (focus (repeat' (first | (with_reducible apply qAv) | (with_reducible apply qAq) | ((with_reducible apply qAD); eq_refl)))); eq_refl; refine SubD.of_eq ?_
      rfl
    rw [if_neg (by rw [h3]; decide)]
    repeat (first | (with_reducible first | apply qAj | apply qAi | apply qAh | apply qAf | apply qAu | apply qAz | apply qAm) | ((with_reducible apply rp); ((with_reducible apply qAa); (conv => lhs; whnf))))
    (with_reducible apply qAA); (focus (repeat' (first | (with_reducible apply qAv) | (with_reducible apply qAq) | ((with_reducible apply qAD); eq_refl)))); eq_refl; refine SubD.of_eq ?_
    rfl
  repeat (first | (with_reducible first | apply qAj | apply qAi | apply qAh | apply qAf) | ((with_reducible apply rp); first | ((with_reducible apply qAa); (conv => lhs; whnf)) | ((with_reducible apply qAc); exact tyOk rfl; eq_refl; eq_refl; decide; eq_refl) | ((with_reducible apply qAe); exact tyOk rfl; (iterate 4 eq_refl)) | ((with_reducible apply qAr); eq_refl; eq_refl)))
  refine qAn rfl (fun h4 => ?_) (fun h4 => ?_)
  · have el : lessV a b = fltV .lss a.b b.b := by unfold lessV; rw [if_neg (by rw [h1]; decide), if_pos h4]
    have em : moreV a b = fltV .gtr a.b b.b := by unfold moreV; rw [if_neg (by rw [h1]; decide), if_pos h4]
    rw [el, em]
    repeat (first | (with_reducible first | apply qAj | apply qAi | apply qAh | apply qAf | apply qA4 | apply qAF) | ((with_reducible apply qBg); (first | kernel_rfl | eq_refl)) | ((with_reducible first | apply rp | apply dr); first | (exact does_from rfl rfl) | (exact qE7 rfl rfl (.inl rfl)) | (exact qE7 rfl rfl (.inr (.inl rfl))) | ((with_reducible first | apply qAd | apply qAa); (conv => lhs; whnf)) | ((with_reducible first | apply qAc | apply qAe) <;> first | ((with_reducible apply tyOk); eq_refl) | eq_refl | decide)))
    refine qAn rfl (fun h2 => ?_) (fun h2 => ?_)
    · rw [if_pos h2]
      repeat (first | (with_reducible first | apply qAj | apply qAi | apply qAh | apply qAf | apply qAu | apply qAS | apply qAz) | ((with_reducible apply rp); ((with_reducible apply qAa); (conv => lhs; whnf))))
      (with_reducible apply qAA); (focus (repeat' (first | (with_reducible apply qAv) | (with_reducible apply qAq) | ((with_reducible apply qAD); eq_refl)))); eq_refl; refine SubD.of_eq ?_
      rfl
    rw [if_neg (by rw [h2]; decide)]
    repeat (first | (with_reducible first | apply qAj | apply qAi | apply qAh | apply qAf | apply qAm) | ((with_reducible apply rp); ((with_reducible apply qAd); (conv => lhs; whnf))))
    refine qAn rfl (fun h3 => ?_) (fun h3 => ?_)
    · rw [if_pos h3]
      repeat (first | (with_reducible first | apply qAj | apply qAi | apply qAh | apply qAf | apply qAu | apply qAS | apply qAz) | ((with_reducible apply rp); ((with_reducible apply qAa); (conv => lhs; whnf))))
      (with_reducible apply qAA); (focus (repeat' (first | (with_reducible apply qAv) | (with_reducible apply qAq) | ((with_reducible apply qAD); eq_refl)))); eq_refl; refine SubD.of_eq ?_
      rfl
    rw [if_neg (by rw [h3]; decide)]
    repeat (first | (with_reducible first | apply qAj | apply qAi | apply qAh | apply qAf | apply qAu | apply qAz | apply qAm) | ((with_reducible apply rp); ((with_reducible apply qAa); (conv => lhs; whnf))))
    (with_reducible apply qAA); (focus (repeat' (first | (with_reducible apply qAv) | (with_reducible apply qAq) | ((with_reducible apply qAD); eq_refl)))); eq_refl; refine SubD.of_eq ?_
    rfl
  repeat (first | (with_reducible first | apply qAj | apply qAi | apply qAh | apply qAf) | ((with_reducible apply rp); first | ((with_reducible apply qAa); (conv => lhs; whnf)) | ((with_reducible apply qAc); exact tyOk rfl; eq_refl; eq_refl; decide; eq_refl) | ((with_reducible apply qAe); exact tyOk rfl; (iterate 4 eq_refl)) | ((with_reducible apply qAr); eq_refl; eq_refl)))
  refine qAn rfl (fun h5 => ?_) (fun h5 => ?_)
  · have el : lessV a b = Op.bytesLess a.t.toList b.t.toList := by unfold lessV; rw [if_neg (by rw [h1]; decide), if_neg (by rw [h4]; decide), if_pos h5]
    have em : moreV a b = !(Op.bytesLess a.t.toList b.t.toList || a.t.toList == b.t.toList) := by unfold moreV; rw [if_neg (by rw [h1]; decide), if_neg (by rw [h4]; decide), if_pos h5]
    rw [el, em]
    repeat (first | (with_reducible first | apply qAj | apply qAi | apply qAh | apply qAf | apply qA4 | apply qAF) | ((with_reducible apply qBg); (first | kernel_rfl | eq_refl)) | ((with_reducible first | apply rp | apply dr); first | ((with_reducible first | apply qAd | apply qAa); (conv => lhs; whnf)) | ((with_reducible first | apply qAc | apply qAe | apply does_slt | apply does_sgt) <;> first | ((with_reducible apply tyOk); eq_refl) | eq_refl | decide)))
    refine qAn rfl (fun h2 => ?_) (fun h2 => ?_)
    · rw [if_pos h2]
      repeat (first | (with_reducible first | apply qAj | apply qAi | apply qAh | apply qAf | apply qAu | apply qAS | apply qAz) | ((with_reducible apply rp); ((with_reducible apply qAa); (conv => lhs; whnf))))
      (with_reducible apply qAA); (focus (repeat' (first | (with_reducible apply qAv) | (with_reducible apply qAq) | ((with_reducible apply qAD); eq_refl)))); eq_refl; refine SubD.of_eq ?_
      rfl
    rw [if_neg (by rw [h2]; decide)]
    repeat (first | (with_reducible first | apply qAj | apply qAi | apply qAh | apply qAf | apply qAm) | ((with_reducible apply rp); ((with_reducible apply qAd); (conv => lhs; whnf))))
    refine qAn rfl (fun h3 => ?_) (fun h3 => ?_)
    · rw [if_pos h3]
      repeat (first | (with_reducible first | apply qAj | apply qAi | apply qAh | apply qAf | apply qAu | apply qAS | apply qAz) | ((with_reducible apply rp); ((with_reducible apply qAa); (conv => lhs; whnf))))
      (with_reducible apply qAA); (focus (repeat' (first | (with_reducible apply qAv) | (with_reducible apply qAq) | ((with_reducible apply qAD); eq_refl)))); eq_refl; refine SubD.of_eq ?_
      rfl
    rw [if_neg (by rw [h3]; decide)]
    repeat (first | (with_reducible first | apply qAj | apply qAi | apply qAh | apply qAf | apply qAu | apply qAz | apply qAm) | ((with_reducible apply rp); ((with_reducible apply qAa); (conv => lhs; whnf))))
    (with_reducible apply qAA); (focus (repeat' (first | (with_reducible apply qAv) | (with_reducible apply qAq) | ((with_reducible apply qAD); eq_refl)))); eq_refl; refine SubD.of_eq ?_
    rfl
  have el : lessV a b = decide (a.n < b.n) := by unfold lessV; rw [if_neg (by rw [h1]; decide), if_neg (by rw [h4]; decide), if_neg (by rw [h5]; decide)]
  have em : moreV a b = decide (a.n > b.n) := by unfold moreV; rw [if_neg (by rw [h1]; decide), if_neg (by rw [h4]; decide), if_neg (by rw [h5]; decide)]
  rw [el, em]
  repeat (first | (with_reducible first | apply qAj | apply qAi | apply qAh | apply qAf | apply qA4 | apply qAF) | ((with_reducible apply qBg); (first | kernel_rfl | eq_refl)) | ((with_reducible first | apply rp | apply dr); first | ((with_reducible first | apply qAd | apply qAa); (conv => lhs; whnf)) | ((with_reducible first | apply qAc | apply qAe | apply qAN | apply qBH) <;> first | ((with_reducible apply tyOk); eq_refl) | eq_refl | decide)))
  refine qAn rfl (fun h2 => ?_) (fun h2 => ?_)
  · rw [if_pos h2]
    repeat (first | (with_reducible first | apply qAj | apply qAi | apply qAh | apply qAf | apply qAu | apply qAS | apply qAz) | ((with_reducible apply rp); ((with_reducible apply qAa); (conv => lhs; whnf))))
    (with_reducible apply qAA); (focus (repeat' (first | (with_reducible apply qAv) | (with_reducible apply qAq) | ((with_reducible apply qAD); eq_refl)))); eq_refl; refine SubD.of_eq ?_
    rfl
  rw [if_neg (by rw [h2]; decide)]
  repeat (first | (with_reducible first | apply qAj | apply qAi | apply qAh | apply qAf | apply qAm) | ((with_reducible apply rp); ((with_reducible apply qAd); (conv => lhs; whnf))))
  refine qAn rfl (fun h3 => ?_) (fun h3 => ?_)
  · rw [if_pos h3]
    repeat (first | (with_reducible first | apply qAj | apply qAi | apply qAh | apply qAf | apply qAu | apply qAS | apply qAz) | ((with_reducible apply rp); ((with_reducible apply qAa); (conv => lhs; whnf))))
    (with_reducible apply qAA); (focus (repeat' (first | (with_reducible apply qAv) | (with_reducible apply qAq) | ((with_reducible apply qAD); eq_refl)))); eq_refl; refine SubD.of_eq ?_
    rfl
  rw [if_neg (by rw [h3]; decide)]
  repeat (first | (with_reducible first | apply qAj | apply qAi | apply qAh | apply qAf | apply qAu | apply qAz | apply qAm) | ((with_reducible apply rp); ((with_reducible apply qAa); (conv => lhs; whnf))))
  (with_reducible apply qAA); (focus (repeat' (first | (with_reducible apply qAv) | (with_reducible apply qAq) | ((with_reducible apply qAD); eq_refl)))); eq_refl; refine SubD.of_eq ?_
  rfl
end Go.Proofs.YtpaccaojgbfjdaaDoor

