/-
  value.both, order, Compare; chirographkeep.real, ValOf, Val as contracts. No condition but the sizes.
-/
import Derived.Test.YtpaccaojgbfjdaaDoorZVal
import Derived.Test.YtpaccaojgbfjdaaDoorZPick
set_option linter.unusedSimpArgs false
set_option linter.unusedVariables false
namespace Go.Proofs.YtpaccaojgbfjdaaDoor
open Go.RowKit

theorem both_pc (a b : Vl) (ha : a.t.size ≤ 9223372036854775807) (hb : b.t.size ≤ 9223372036854775807) (oa : chkV a = 0) (ob : chkV b = 0) : PC Tryd.prog 153 [.ag a.cs, .ag b.cs] (iD 0) := by
  have c1 := qES a ha
  have c2 := qES b hb
  rw [oa] at c1
  rw [ob] at c2
  obtain ⟨ak, an, ab, at_⟩ := a
  obtain ⟨bk, bn, bb, bt⟩ := b
  unfold Vl.cs at *
  refine qAs Tryd.func153 rfl (by kernel_rfl) mixed (by kernel_rfl) (qle (by kernel_rfl)) Tryd.results153 ?_
  repeat (first | (with_reducible first | apply qAj | apply qAh | apply qAi | apply qAg) | ((with_reducible apply rp); first | ((with_reducible apply qAf); exact rfl; exact rfl; exact (c1); exact rfl) | ((with_reducible apply qAd); (conv => lhs; whnf)) | ((with_reducible apply qAa); (conv => lhs; whnf)) | ((with_reducible apply qAl); exact tyOk rfl; (iterate 3 exact rfl); exact qle rfl; exact rfl) | ((with_reducible apply qAV); exact rfl; exact rfl)) | ((with_reducible apply rp1); ((with_reducible apply qAn); exact rfl; exact rfl)))
  refine qAo rfl (fun h => absurd h (by decide)) (fun h => ?_)
  repeat (first | (with_reducible first | apply qAj | apply qAh | apply qAi | apply qAg | apply qAu | apply qAy | apply qAm) | ((with_reducible apply rp); first | ((with_reducible apply qAf); exact rfl; exact rfl; exact (c2); exact rfl) | ((with_reducible apply qAa); (conv => lhs; whnf)) | ((with_reducible apply qAl); exact tyOk rfl; (iterate 3 exact rfl); exact qle rfl; exact rfl)))
  (with_reducible apply qAz); (focus (repeat' (first | (with_reducible apply qAw) | (with_reducible apply qAr) | ((with_reducible apply qAB); exact rfl)))); exact rfl; refine SubD.of_eq ?_
  rfl
def qCz (a b : Vl) : Bool := if (a.k != b.k) = true then decide (a.k < b.k) else if (a.k == 3) = true then fltV .lss a.b b.b else if (a.k == 4) = true then Op.bytesLess a.t.toList b.t.toList else decide (a.n < b.n)
def qDw (a b : Vl) : Bool := if (a.k != b.k) = true then decide (a.k > b.k) else if (a.k == 3) = true then fltV .gtr a.b b.b else if (a.k == 4) = true then !(Op.bytesLess a.t.toList b.t.toList || a.t.toList == b.t.toList) else decide (a.n > b.n)
def ordV (a b : Vl) : Int := if qCz a b = true then -1 else if qDw a b = true then 1 else 0
set_option maxHeartbeats 2000000 in
theorem order_pc (a b : Vl) : PC Tryd.prog 154 [.ag a.cs, .ag b.cs] (iD (ordV a b)) := by
  unfold ordV
  have fin : ∀ x y : Bool, qCz a b = x → qDw a b = y → True := fun _ _ _ _ => trivial
  refine qAs Tryd.func154 rfl (by kernel_rfl) mixed (by kernel_rfl) (qle (by kernel_rfl)) Tryd.results154 ?_
  repeat (first | (with_reducible first | apply qAj | apply qAh | apply qAi | apply qAg | apply qAq) | ((with_reducible apply rp); first | ((with_reducible apply qAa); (conv => lhs; whnf)) | ((with_reducible apply qAc); exact tyOk rfl; exact rfl; exact rfl; decide; exact rfl) | ((with_reducible apply qAe); exact tyOk rfl; (iterate 4 exact rfl)) | ((with_reducible apply qAV); exact rfl; exact rfl)) | ((with_reducible apply rp1); ((with_reducible apply qAn); exact rfl; exact rfl)))
  refine qAo rfl (fun h1 => ?_) (fun h1 => ?_)
  · have el : qCz a b = decide (a.k < b.k) := by unfold qCz; rw [if_pos h1]
    have em : qDw a b = decide (a.k > b.k) := by unfold qDw; rw [if_pos h1]
    rw [el, em]
    repeat (first | (with_reducible first | apply qAj | apply qAh | apply qAi | apply qAg | apply qA5 | apply qAF) | ((with_reducible apply qBh); (first | kernel_rfl | exact rfl)) | ((with_reducible first | apply rp | apply dr); first | ((with_reducible first | apply qAd | apply qAa); (conv => lhs; whnf)) | ((with_reducible first | apply qAc | apply qAe | apply qAU | apply qBH) <;> first | ((with_reducible apply tyOk); exact rfl) | exact rfl | decide)))
    refine qAo rfl (fun h2 => ?_) (fun h2 => ?_)
    · rw [if_pos h2]
      repeat (first | (with_reducible first | apply qAj | apply qAh | apply qAi | apply qAg | apply qAu | apply qAS | apply qAy) | ((with_reducible apply rp); ((with_reducible apply qAa); (conv => lhs; whnf))))
      (with_reducible apply qAz); (focus (repeat' (first | (with_reducible apply qAw) | (with_reducible apply qAr) | ((with_reducible apply qAB); exact rfl)))); exact rfl; refine SubD.of_eq ?_
      rfl
    rw [if_neg (by rw [h2]; decide)]
    repeat (first | (with_reducible first | apply qAj | apply qAh | apply qAi | apply qAg | apply qAm) | ((with_reducible apply rp); ((with_reducible apply qAd); (conv => lhs; whnf))))
    refine qAo rfl (fun h3 => ?_) (fun h3 => ?_)
    · rw [if_pos h3]
      repeat (first | (with_reducible first | apply qAj | apply qAh | apply qAi | apply qAg | apply qAu | apply qAS | apply qAy) | ((with_reducible apply rp); ((with_reducible apply qAa); (conv => lhs; whnf))))
      (with_reducible apply qAz); (focus (repeat' (first | (with_reducible apply qAw) | (with_reducible apply qAr) | ((with_reducible apply qAB); exact rfl)))); exact rfl; refine SubD.of_eq ?_
      rfl
    rw [if_neg (by rw [h3]; decide)]
    repeat (first | (with_reducible first | apply qAj | apply qAh | apply qAi | apply qAg | apply qAu | apply qAy | apply qAm) | ((with_reducible apply rp); ((with_reducible apply qAa); (conv => lhs; whnf))))
    (with_reducible apply qAz); (focus (repeat' (first | (with_reducible apply qAw) | (with_reducible apply qAr) | ((with_reducible apply qAB); exact rfl)))); exact rfl; refine SubD.of_eq ?_
    rfl
  repeat (first | (with_reducible first | apply qAj | apply qAh | apply qAi | apply qAg) | ((with_reducible apply rp); first | ((with_reducible apply qAa); (conv => lhs; whnf)) | ((with_reducible apply qAc); exact tyOk rfl; exact rfl; exact rfl; decide; exact rfl) | ((with_reducible apply qAe); exact tyOk rfl; (iterate 4 exact rfl)) | ((with_reducible apply qAt); exact rfl; exact rfl)))
  refine qAo rfl (fun h4 => ?_) (fun h4 => ?_)
  · have el : qCz a b = fltV .lss a.b b.b := by unfold qCz; rw [if_neg (by rw [h1]; decide), if_pos h4]
    have em : qDw a b = fltV .gtr a.b b.b := by unfold qDw; rw [if_neg (by rw [h1]; decide), if_pos h4]
    rw [el, em]
    repeat (first | (with_reducible first | apply qAj | apply qAh | apply qAi | apply qAg | apply qA5 | apply qAF) | ((with_reducible apply qBh); (first | kernel_rfl | exact rfl)) | ((with_reducible first | apply rp | apply dr); first | (exact does_from rfl rfl) | (exact qFo rfl rfl (.inl rfl)) | (exact qFo rfl rfl (.inr (.inl rfl))) | ((with_reducible first | apply qAd | apply qAa); (conv => lhs; whnf)) | ((with_reducible first | apply qAc | apply qAe) <;> first | ((with_reducible apply tyOk); exact rfl) | exact rfl | decide)))
    refine qAo rfl (fun h2 => ?_) (fun h2 => ?_)
    · rw [if_pos h2]
      repeat (first | (with_reducible first | apply qAj | apply qAh | apply qAi | apply qAg | apply qAu | apply qAS | apply qAy) | ((with_reducible apply rp); ((with_reducible apply qAa); (conv => lhs; whnf))))
      (with_reducible apply qAz); (focus (repeat' (first | (with_reducible apply qAw) | (with_reducible apply qAr) | ((with_reducible apply qAB); exact rfl)))); exact rfl; refine SubD.of_eq ?_
      rfl
    rw [if_neg (by rw [h2]; decide)]
    repeat (first | (with_reducible first | apply qAj | apply qAh | apply qAi | apply qAg | apply qAm) | ((with_reducible apply rp); ((with_reducible apply qAd); (conv => lhs; whnf))))
    refine qAo rfl (fun h3 => ?_) (fun h3 => ?_)
    · rw [if_pos h3]
      repeat (first | (with_reducible first | apply qAj | apply qAh | apply qAi | apply qAg | apply qAu | apply qAS | apply qAy) | ((with_reducible apply rp); ((with_reducible apply qAa); (conv => lhs; whnf))))
      (with_reducible apply qAz); (focus (repeat' (first | (with_reducible apply qAw) | (with_reducible apply qAr) | ((with_reducible apply qAB); exact rfl)))); exact rfl; refine SubD.of_eq ?_
      rfl
    rw [if_neg (by rw [h3]; decide)]
    repeat (first | (with_reducible first | apply qAj | apply qAh | apply qAi | apply qAg | apply qAu | apply qAy | apply qAm) | ((with_reducible apply rp); ((with_reducible apply qAa); (conv => lhs; whnf))))
    (with_reducible apply qAz); (focus (repeat' (first | (with_reducible apply qAw) | (with_reducible apply qAr) | ((with_reducible apply qAB); exact rfl)))); exact rfl; refine SubD.of_eq ?_
    rfl
  repeat (first | (with_reducible first | apply qAj | apply qAh | apply qAi | apply qAg) | ((with_reducible apply rp); first | ((with_reducible apply qAa); (conv => lhs; whnf)) | ((with_reducible apply qAc); exact tyOk rfl; exact rfl; exact rfl; decide; exact rfl) | ((with_reducible apply qAe); exact tyOk rfl; (iterate 4 exact rfl)) | ((with_reducible apply qAt); exact rfl; exact rfl)))
  refine qAo rfl (fun h5 => ?_) (fun h5 => ?_)
  · have el : qCz a b = Op.bytesLess a.t.toList b.t.toList := by unfold qCz; rw [if_neg (by rw [h1]; decide), if_neg (by rw [h4]; decide), if_pos h5]
    have em : qDw a b = !(Op.bytesLess a.t.toList b.t.toList || a.t.toList == b.t.toList) := by unfold qDw; rw [if_neg (by rw [h1]; decide), if_neg (by rw [h4]; decide), if_pos h5]
    rw [el, em]
    repeat (first | (with_reducible first | apply qAj | apply qAh | apply qAi | apply qAg | apply qA5 | apply qAF) | ((with_reducible apply qBh); (first | kernel_rfl | exact rfl)) | ((with_reducible first | apply rp | apply dr); first | ((with_reducible first | apply qAd | apply qAa); (conv => lhs; whnf)) | ((with_reducible first | apply qAc | apply qAe | apply does_slt | apply does_sgt) <;> first | ((with_reducible apply tyOk); exact rfl) | exact rfl | decide)))
    refine qAo rfl (fun h2 => ?_) (fun h2 => ?_)
    · rw [if_pos h2]
      repeat (first | (with_reducible first | apply qAj | apply qAh | apply qAi | apply qAg | apply qAu | apply qAS | apply qAy) | ((with_reducible apply rp); ((with_reducible apply qAa); (conv => lhs; whnf))))
      (with_reducible apply qAz); (focus (repeat' (first | (with_reducible apply qAw) | (with_reducible apply qAr) | ((with_reducible apply qAB); exact rfl)))); exact rfl; refine SubD.of_eq ?_
      rfl
    rw [if_neg (by rw [h2]; decide)]
    repeat (first | (with_reducible first | apply qAj | apply qAh | apply qAi | apply qAg | apply qAm) | ((with_reducible apply rp); ((with_reducible apply qAd); (conv => lhs; whnf))))
    refine qAo rfl (fun h3 => ?_) (fun h3 => ?_)
    · rw [if_pos h3]
      repeat (first | (with_reducible first | apply qAj | apply qAh | apply qAi | apply qAg | apply qAu | apply qAS | apply qAy) | ((with_reducible apply rp); ((with_reducible apply qAa); (conv => lhs; whnf))))
      (with_reducible apply qAz); (focus (repeat' (first | (with_reducible apply qAw) | (with_reducible apply qAr) | ((with_reducible apply qAB); exact rfl)))); exact rfl; refine SubD.of_eq ?_
      rfl
    rw [if_neg (by rw [h3]; decide)]
    repeat (first | (with_reducible first | apply qAj | apply qAh | apply qAi | apply qAg | apply qAu | apply qAy | apply qAm) | ((with_reducible apply rp); ((with_reducible apply qAa); (conv => lhs; whnf))))
    (with_reducible apply qAz); (focus (repeat' (first | (with_reducible apply qAw) | (with_reducible apply qAr) | ((with_reducible apply qAB); exact rfl)))); exact rfl; refine SubD.of_eq ?_
    rfl
  have el : qCz a b = decide (a.n < b.n) := by unfold qCz; rw [if_neg (by rw [h1]; decide), if_neg (by rw [h4]; decide), if_neg (by rw [h5]; decide)]
  have em : qDw a b = decide (a.n > b.n) := by unfold qDw; rw [if_neg (by rw [h1]; decide), if_neg (by rw [h4]; decide), if_neg (by rw [h5]; decide)]
  rw [el, em]
  repeat (first | (with_reducible first | apply qAj | apply qAh | apply qAi | apply qAg | apply qA5 | apply qAF) | ((with_reducible apply qBh); (first | kernel_rfl | exact rfl)) | ((with_reducible first | apply rp | apply dr); first | ((with_reducible first | apply qAd | apply qAa); (conv => lhs; whnf)) | ((with_reducible first | apply qAc | apply qAe | apply qAU | apply qBH) <;> first | ((with_reducible apply tyOk); exact rfl) | exact rfl | decide)))
  refine qAo rfl (fun h2 => ?_) (fun h2 => ?_)
  · rw [if_pos h2]
    repeat (first | (with_reducible first | apply qAj | apply qAh | apply qAi | apply qAg | apply qAu | apply qAS | apply qAy) | ((with_reducible apply rp); ((with_reducible apply qAa); (conv => lhs; whnf))))
    (with_reducible apply qAz); (focus (repeat' (first | (with_reducible apply qAw) | (with_reducible apply qAr) | ((with_reducible apply qAB); exact rfl)))); exact rfl; refine SubD.of_eq ?_
    rfl
  rw [if_neg (by rw [h2]; decide)]
  repeat (first | (with_reducible first | apply qAj | apply qAh | apply qAi | apply qAg | apply qAm) | ((with_reducible apply rp); ((with_reducible apply qAd); (conv => lhs; whnf))))
  refine qAo rfl (fun h3 => ?_) (fun h3 => ?_)
  · rw [if_pos h3]
    repeat (first | (with_reducible first | apply qAj | apply qAh | apply qAi | apply qAg | apply qAu | apply qAS | apply qAy) | ((with_reducible apply rp); ((with_reducible apply qAa); (conv => lhs; whnf))))
    (with_reducible apply qAz); (focus (repeat' (first | (with_reducible apply qAw) | (with_reducible apply qAr) | ((with_reducible apply qAB); exact rfl)))); exact rfl; refine SubD.of_eq ?_
    rfl
  rw [if_neg (by rw [h3]; decide)]
  repeat (first | (with_reducible first | apply qAj | apply qAh | apply qAi | apply qAg | apply qAu | apply qAy | apply qAm) | ((with_reducible apply rp); ((with_reducible apply qAa); (conv => lhs; whnf))))
  (with_reducible apply qAz); (focus (repeat' (first | (with_reducible apply qAw) | (with_reducible apply qAr) | ((with_reducible apply qAB); exact rfl)))); exact rfl; refine SubD.of_eq ?_
  rfl
theorem u64_nat (n : Int) : ∃ x : Nat, x < 18446744073709551616 ∧ IntKind.u64.wrap n = (x : Int) := by
  refine ⟨(n % 18446744073709551616).toNat, by omega, ?_⟩
  have : IntKind.u64.wrap n = n % 18446744073709551616 := by rw [IntKind.wrap_u64]
  rw [this]; omega
theorem xor_nat (x y : Nat) (hx : x < 18446744073709551616) (hy : y < 18446744073709551616) : bitV .xor .u64 (x : Int) (y : Int) = ((x ^^^ y : Nat) : Int) ∧ x ^^^ y < 18446744073709551616 := by
  have hz : x ^^^ y < 2 ^ 64 := Nat.xor_lt_two_pow (by omega) (by omega)
  have e : ∀ z : Nat, z < 18446744073709551616 → (BitVec.ofInt 64 (z : Int)).toNat = z := fun z hz => by rw [BitVec.ofInt_natCast, BitVec.toNat_ofNat]; exact Nat.mod_eq_of_lt (by omega)
  refine ⟨?_, by omega⟩
  show IntKind.u64.wrap ((BitVec.ofInt 64 (x : Int) ^^^ BitVec.ofInt 64 (y : Int)).toNat : Int) = _
  rw [BitVec.toNat_xor, e x hx, e y hy, IntKind.wrap_u64]
  omega
theorem and_nat (x y : Nat) (hx : x < 18446744073709551616) (hy : y < 18446744073709551616) : bitV .and .u64 (x : Int) (y : Int) = ((x &&& y : Nat) : Int) := by
  have hz : x &&& y ≤ x := Nat.and_le_left
  have e : ∀ z : Nat, z < 18446744073709551616 → (BitVec.ofInt 64 (z : Int)).toNat = z := fun z hz => by rw [BitVec.ofInt_natCast, BitVec.toNat_ofNat]; exact Nat.mod_eq_of_lt (by omega)
  show IntKind.u64.wrap ((BitVec.ofInt 64 (x : Int) &&& BitVec.ofInt 64 (y : Int)).toNat : Int) = _
  rw [BitVec.toNat_and, e x hx, e y hy, IntKind.wrap_u64]
  omega
end Go.Proofs.YtpaccaojgbfjdaaDoor

