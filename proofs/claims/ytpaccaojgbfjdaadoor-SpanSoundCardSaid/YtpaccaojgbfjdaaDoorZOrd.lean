/-
  value.both, order, Compare; chirographkeep.real, ValOf, Val as contracts. No condition but the sizes.
-/
import Derived.Test.YtpaccaojgbfjdaaDoorZVal
import Derived.Test.YtpaccaojgbfjdaaDoorZPick
namespace Go.Proofs.YtpaccaojgbfjdaaDoor
set_option linter.unusedSimpArgs false
set_option linter.unusedVariables false
open Go.RowKit

theorem both_pc (a b : Vl) (ha : a.t.size ≤ 9223372036854775807) (hb : b.t.size ≤ 9223372036854775807) (oa : chkV a = 0) (ob : chkV b = 0) : PC Tryd.prog 153 [.ag a.cs, .ag b.cs] (iD 0) := by
  have c1 := check_pc a ha
  have c2 := check_pc b hb
  rw [oa] at c1
  rw [ob] at c2
  obtain ⟨ak, an, ab, at_⟩ := a
  obtain ⟨bk, bn, bb, bt⟩ := b
  unfold Vl.cs at *
  refine pc_of_aw Tryd.func153 rfl (by kernel_rfl) mixed (by kernel_rfl) (by rw [Tryd.ntmps153]; exact Nat.le_of_ble_eq_true rfl) Tryd.results153 ?_
  repeat (first | (with_reducible first | apply aw_seq | apply aw_reg | apply rp_nil | apply ae_norm) | ((with_reducible apply rp); first | ((with_reducible apply does_call_flat); exact rfl; exact rfl; exact (c1); exact rfl) | ((with_reducible apply does_move); (conv => lhs; whnf)) | ((with_reducible apply does_assign); (conv => lhs; whnf)) | ((with_reducible apply does_load_row); exact tyOk rfl; exact rfl; exact rfl; exact rfl; exact Nat.le_of_ble_eq_true rfl; exact rfl) | ((with_reducible apply does_ne); exact rfl; exact rfl)) | ((with_reducible apply rp1); ((with_reducible apply does_box_ag); exact rfl; exact rfl)))
  refine aw_cond rfl (fun h => absurd h (by decide)) (fun h => ?_)
  repeat (first | (with_reducible first | apply aw_seq | apply aw_reg | apply rp_nil | apply ae_norm | apply aw_ret | apply re_ret | apply aw_skip) | ((with_reducible apply rp); first | ((with_reducible apply does_call_flat); exact rfl; exact rfl; exact (c2); exact rfl) | ((with_reducible apply does_assign); (conv => lhs; whnf)) | ((with_reducible apply does_load_row); exact tyOk rfl; exact rfl; exact rfl; exact rfl; exact Nat.le_of_ble_eq_true rfl; exact rfl)))
  (with_reducible apply ret_ok); (focus (repeat' (first | (with_reducible apply rv_nil) | (with_reducible apply rv_cons) | ((with_reducible apply rv_tmp); exact rfl)))); exact rfl; refine SubD.of_eq ?_
  rfl
def lessV (a b : Vl) : Bool := if (a.k != b.k) = true then decide (a.k < b.k) else if (a.k == 3) = true then fltV .lss a.b b.b else if (a.k == 4) = true then Op.bytesLess a.t.toList b.t.toList else decide (a.n < b.n)
def moreV (a b : Vl) : Bool := if (a.k != b.k) = true then decide (a.k > b.k) else if (a.k == 3) = true then fltV .gtr a.b b.b else if (a.k == 4) = true then !(Op.bytesLess a.t.toList b.t.toList || a.t.toList == b.t.toList) else decide (a.n > b.n)
def ordV (a b : Vl) : Int := if lessV a b = true then -1 else if moreV a b = true then 1 else 0
set_option maxHeartbeats 2000000 in
theorem order_pc (a b : Vl) : PC Tryd.prog 154 [.ag a.cs, .ag b.cs] (iD (ordV a b)) := by
  unfold ordV
  have fin : ∀ x y : Bool, lessV a b = x → moreV a b = y → True := fun _ _ _ _ => trivial
  refine pc_of_aw Tryd.func154 rfl (by kernel_rfl) mixed (by kernel_rfl) (by rw [Tryd.ntmps154]; exact Nat.le_of_ble_eq_true rfl) Tryd.results154 ?_
  repeat (first | (with_reducible first | apply aw_seq | apply aw_reg | apply rp_nil | apply ae_norm | apply aw_block) | ((with_reducible apply rp); first | ((with_reducible apply does_assign); (conv => lhs; whnf)) | ((with_reducible apply does_fieldAddr); exact tyOk rfl; exact rfl; exact rfl; decide; exact rfl) | ((with_reducible apply does_load_var); exact tyOk rfl; exact rfl; exact rfl; exact rfl; exact rfl) | ((with_reducible apply does_ne); exact rfl; exact rfl)) | ((with_reducible apply rp1); ((with_reducible apply does_box_ag); exact rfl; exact rfl)))
  refine aw_cond rfl (fun h1 => ?_) (fun h1 => ?_)
  · have el : lessV a b = decide (a.k < b.k) := by unfold lessV; rw [if_pos h1]
    have em : moreV a b = decide (a.k > b.k) := by unfold moreV; rw [if_pos h1]
    rw [el, em]
    repeat (first | (with_reducible first | apply aw_seq | apply aw_reg | apply rp_nil | apply ae_norm | apply aw_regD | apply be_norm) | ((with_reducible apply dr_nil); (first | kernel_rfl | exact rfl)) | ((with_reducible first | apply rp | apply dr); first | ((with_reducible apply does_move); (conv => lhs; whnf)) | ((with_reducible apply does_assign); (conv => lhs; whnf)) | ((with_reducible apply does_fieldAddr); exact tyOk rfl; exact rfl; exact rfl; decide; exact rfl) | ((with_reducible apply does_load_var); exact tyOk rfl; exact rfl; exact rfl; exact rfl; exact rfl) | ((with_reducible apply does_lt); exact rfl; exact rfl) | ((with_reducible apply does_gt); exact rfl; exact rfl)))
    refine aw_cond rfl (fun h2 => ?_) (fun h2 => ?_)
    · rw [if_pos h2]
      repeat (first | (with_reducible first | apply aw_seq | apply aw_reg | apply rp_nil | apply ae_norm | apply aw_ret | apply ae_ret | apply re_ret) | ((with_reducible apply rp); ((with_reducible apply does_assign); (conv => lhs; whnf))))
      (with_reducible apply ret_ok); (focus (repeat' (first | (with_reducible apply rv_nil) | (with_reducible apply rv_cons) | ((with_reducible apply rv_tmp); exact rfl)))); exact rfl; refine SubD.of_eq ?_
      rfl
    rw [if_neg (by rw [h2]; decide)]
    repeat (first | (with_reducible first | apply aw_seq | apply aw_reg | apply rp_nil | apply ae_norm | apply aw_skip) | ((with_reducible apply rp); ((with_reducible apply does_move); (conv => lhs; whnf))))
    refine aw_cond rfl (fun h3 => ?_) (fun h3 => ?_)
    · rw [if_pos h3]
      repeat (first | (with_reducible first | apply aw_seq | apply aw_reg | apply rp_nil | apply ae_norm | apply aw_ret | apply ae_ret | apply re_ret) | ((with_reducible apply rp); ((with_reducible apply does_assign); (conv => lhs; whnf))))
      (with_reducible apply ret_ok); (focus (repeat' (first | (with_reducible apply rv_nil) | (with_reducible apply rv_cons) | ((with_reducible apply rv_tmp); exact rfl)))); exact rfl; refine SubD.of_eq ?_
      rfl
    rw [if_neg (by rw [h3]; decide)]
    repeat (first | (with_reducible first | apply aw_seq | apply aw_reg | apply rp_nil | apply ae_norm | apply aw_ret | apply re_ret | apply aw_skip) | ((with_reducible apply rp); ((with_reducible apply does_assign); (conv => lhs; whnf))))
    (with_reducible apply ret_ok); (focus (repeat' (first | (with_reducible apply rv_nil) | (with_reducible apply rv_cons) | ((with_reducible apply rv_tmp); exact rfl)))); exact rfl; refine SubD.of_eq ?_
    rfl
  repeat (first | (with_reducible first | apply aw_seq | apply aw_reg | apply rp_nil | apply ae_norm) | ((with_reducible apply rp); first | ((with_reducible apply does_assign); (conv => lhs; whnf)) | ((with_reducible apply does_fieldAddr); exact tyOk rfl; exact rfl; exact rfl; decide; exact rfl) | ((with_reducible apply does_load_var); exact tyOk rfl; exact rfl; exact rfl; exact rfl; exact rfl) | ((with_reducible apply does_eq); exact rfl; exact rfl)))
  refine aw_cond rfl (fun h4 => ?_) (fun h4 => ?_)
  · have el : lessV a b = fltV .lss a.b b.b := by unfold lessV; rw [if_neg (by rw [h1]; decide), if_pos h4]
    have em : moreV a b = fltV .gtr a.b b.b := by unfold moreV; rw [if_neg (by rw [h1]; decide), if_pos h4]
    rw [el, em]
    repeat (first | (with_reducible first | apply aw_seq | apply aw_reg | apply rp_nil | apply ae_norm | apply aw_regD | apply be_norm) | ((with_reducible apply dr_nil); (first | kernel_rfl | exact rfl)) | ((with_reducible first | apply rp | apply dr); first | (exact does_from rfl rfl) | (exact does_flt rfl rfl (.inl rfl)) | (exact does_flt rfl rfl (.inr (.inl rfl))) | ((with_reducible apply does_move); (conv => lhs; whnf)) | ((with_reducible apply does_assign); (conv => lhs; whnf)) | ((with_reducible apply does_fieldAddr); exact tyOk rfl; exact rfl; exact rfl; decide; exact rfl) | ((with_reducible apply does_load_var); exact tyOk rfl; exact rfl; exact rfl; exact rfl; exact rfl)))
    refine aw_cond rfl (fun h2 => ?_) (fun h2 => ?_)
    · rw [if_pos h2]
      repeat (first | (with_reducible first | apply aw_seq | apply aw_reg | apply rp_nil | apply ae_norm | apply aw_ret | apply ae_ret | apply re_ret) | ((with_reducible apply rp); ((with_reducible apply does_assign); (conv => lhs; whnf))))
      (with_reducible apply ret_ok); (focus (repeat' (first | (with_reducible apply rv_nil) | (with_reducible apply rv_cons) | ((with_reducible apply rv_tmp); exact rfl)))); exact rfl; refine SubD.of_eq ?_
      rfl
    rw [if_neg (by rw [h2]; decide)]
    repeat (first | (with_reducible first | apply aw_seq | apply aw_reg | apply rp_nil | apply ae_norm | apply aw_skip) | ((with_reducible apply rp); ((with_reducible apply does_move); (conv => lhs; whnf))))
    refine aw_cond rfl (fun h3 => ?_) (fun h3 => ?_)
    · rw [if_pos h3]
      repeat (first | (with_reducible first | apply aw_seq | apply aw_reg | apply rp_nil | apply ae_norm | apply aw_ret | apply ae_ret | apply re_ret) | ((with_reducible apply rp); ((with_reducible apply does_assign); (conv => lhs; whnf))))
      (with_reducible apply ret_ok); (focus (repeat' (first | (with_reducible apply rv_nil) | (with_reducible apply rv_cons) | ((with_reducible apply rv_tmp); exact rfl)))); exact rfl; refine SubD.of_eq ?_
      rfl
    rw [if_neg (by rw [h3]; decide)]
    repeat (first | (with_reducible first | apply aw_seq | apply aw_reg | apply rp_nil | apply ae_norm | apply aw_ret | apply re_ret | apply aw_skip) | ((with_reducible apply rp); ((with_reducible apply does_assign); (conv => lhs; whnf))))
    (with_reducible apply ret_ok); (focus (repeat' (first | (with_reducible apply rv_nil) | (with_reducible apply rv_cons) | ((with_reducible apply rv_tmp); exact rfl)))); exact rfl; refine SubD.of_eq ?_
    rfl
  repeat (first | (with_reducible first | apply aw_seq | apply aw_reg | apply rp_nil | apply ae_norm) | ((with_reducible apply rp); first | ((with_reducible apply does_assign); (conv => lhs; whnf)) | ((with_reducible apply does_fieldAddr); exact tyOk rfl; exact rfl; exact rfl; decide; exact rfl) | ((with_reducible apply does_load_var); exact tyOk rfl; exact rfl; exact rfl; exact rfl; exact rfl) | ((with_reducible apply does_eq); exact rfl; exact rfl)))
  refine aw_cond rfl (fun h5 => ?_) (fun h5 => ?_)
  · have el : lessV a b = Op.bytesLess a.t.toList b.t.toList := by unfold lessV; rw [if_neg (by rw [h1]; decide), if_neg (by rw [h4]; decide), if_pos h5]
    have em : moreV a b = !(Op.bytesLess a.t.toList b.t.toList || a.t.toList == b.t.toList) := by unfold moreV; rw [if_neg (by rw [h1]; decide), if_neg (by rw [h4]; decide), if_pos h5]
    rw [el, em]
    repeat (first | (with_reducible first | apply aw_seq | apply aw_reg | apply rp_nil | apply ae_norm | apply aw_regD | apply be_norm) | ((with_reducible apply dr_nil); (first | kernel_rfl | exact rfl)) | ((with_reducible first | apply rp | apply dr); first | ((with_reducible apply does_move); (conv => lhs; whnf)) | ((with_reducible apply does_assign); (conv => lhs; whnf)) | ((with_reducible apply does_fieldAddr); exact tyOk rfl; exact rfl; exact rfl; decide; exact rfl) | ((with_reducible apply does_load_var); exact tyOk rfl; exact rfl; exact rfl; exact rfl; exact rfl) | ((with_reducible apply does_slt); exact rfl; exact rfl) | ((with_reducible apply does_sgt); exact rfl; exact rfl)))
    refine aw_cond rfl (fun h2 => ?_) (fun h2 => ?_)
    · rw [if_pos h2]
      repeat (first | (with_reducible first | apply aw_seq | apply aw_reg | apply rp_nil | apply ae_norm | apply aw_ret | apply ae_ret | apply re_ret) | ((with_reducible apply rp); ((with_reducible apply does_assign); (conv => lhs; whnf))))
      (with_reducible apply ret_ok); (focus (repeat' (first | (with_reducible apply rv_nil) | (with_reducible apply rv_cons) | ((with_reducible apply rv_tmp); exact rfl)))); exact rfl; refine SubD.of_eq ?_
      rfl
    rw [if_neg (by rw [h2]; decide)]
    repeat (first | (with_reducible first | apply aw_seq | apply aw_reg | apply rp_nil | apply ae_norm | apply aw_skip) | ((with_reducible apply rp); ((with_reducible apply does_move); (conv => lhs; whnf))))
    refine aw_cond rfl (fun h3 => ?_) (fun h3 => ?_)
    · rw [if_pos h3]
      repeat (first | (with_reducible first | apply aw_seq | apply aw_reg | apply rp_nil | apply ae_norm | apply aw_ret | apply ae_ret | apply re_ret) | ((with_reducible apply rp); ((with_reducible apply does_assign); (conv => lhs; whnf))))
      (with_reducible apply ret_ok); (focus (repeat' (first | (with_reducible apply rv_nil) | (with_reducible apply rv_cons) | ((with_reducible apply rv_tmp); exact rfl)))); exact rfl; refine SubD.of_eq ?_
      rfl
    rw [if_neg (by rw [h3]; decide)]
    repeat (first | (with_reducible first | apply aw_seq | apply aw_reg | apply rp_nil | apply ae_norm | apply aw_ret | apply re_ret | apply aw_skip) | ((with_reducible apply rp); ((with_reducible apply does_assign); (conv => lhs; whnf))))
    (with_reducible apply ret_ok); (focus (repeat' (first | (with_reducible apply rv_nil) | (with_reducible apply rv_cons) | ((with_reducible apply rv_tmp); exact rfl)))); exact rfl; refine SubD.of_eq ?_
    rfl
  have el : lessV a b = decide (a.n < b.n) := by unfold lessV; rw [if_neg (by rw [h1]; decide), if_neg (by rw [h4]; decide), if_neg (by rw [h5]; decide)]
  have em : moreV a b = decide (a.n > b.n) := by unfold moreV; rw [if_neg (by rw [h1]; decide), if_neg (by rw [h4]; decide), if_neg (by rw [h5]; decide)]
  rw [el, em]
  repeat (first | (with_reducible first | apply aw_seq | apply aw_reg | apply rp_nil | apply ae_norm | apply aw_regD | apply be_norm) | ((with_reducible apply dr_nil); (first | kernel_rfl | exact rfl)) | ((with_reducible first | apply rp | apply dr); first | ((with_reducible apply does_move); (conv => lhs; whnf)) | ((with_reducible apply does_assign); (conv => lhs; whnf)) | ((with_reducible apply does_fieldAddr); exact tyOk rfl; exact rfl; exact rfl; decide; exact rfl) | ((with_reducible apply does_load_var); exact tyOk rfl; exact rfl; exact rfl; exact rfl; exact rfl) | ((with_reducible apply does_lt); exact rfl; exact rfl) | ((with_reducible apply does_gt); exact rfl; exact rfl)))
  refine aw_cond rfl (fun h2 => ?_) (fun h2 => ?_)
  · rw [if_pos h2]
    repeat (first | (with_reducible first | apply aw_seq | apply aw_reg | apply rp_nil | apply ae_norm | apply aw_ret | apply ae_ret | apply re_ret) | ((with_reducible apply rp); ((with_reducible apply does_assign); (conv => lhs; whnf))))
    (with_reducible apply ret_ok); (focus (repeat' (first | (with_reducible apply rv_nil) | (with_reducible apply rv_cons) | ((with_reducible apply rv_tmp); exact rfl)))); exact rfl; refine SubD.of_eq ?_
    rfl
  rw [if_neg (by rw [h2]; decide)]
  repeat (first | (with_reducible first | apply aw_seq | apply aw_reg | apply rp_nil | apply ae_norm | apply aw_skip) | ((with_reducible apply rp); ((with_reducible apply does_move); (conv => lhs; whnf))))
  refine aw_cond rfl (fun h3 => ?_) (fun h3 => ?_)
  · rw [if_pos h3]
    repeat (first | (with_reducible first | apply aw_seq | apply aw_reg | apply rp_nil | apply ae_norm | apply aw_ret | apply ae_ret | apply re_ret) | ((with_reducible apply rp); ((with_reducible apply does_assign); (conv => lhs; whnf))))
    (with_reducible apply ret_ok); (focus (repeat' (first | (with_reducible apply rv_nil) | (with_reducible apply rv_cons) | ((with_reducible apply rv_tmp); exact rfl)))); exact rfl; refine SubD.of_eq ?_
    rfl
  rw [if_neg (by rw [h3]; decide)]
  repeat (first | (with_reducible first | apply aw_seq | apply aw_reg | apply rp_nil | apply ae_norm | apply aw_ret | apply re_ret | apply aw_skip) | ((with_reducible apply rp); ((with_reducible apply does_assign); (conv => lhs; whnf))))
  (with_reducible apply ret_ok); (focus (repeat' (first | (with_reducible apply rv_nil) | (with_reducible apply rv_cons) | ((with_reducible apply rv_tmp); exact rfl)))); exact rfl; refine SubD.of_eq ?_
  rfl
/-! ### reals -/
theorem u64_nat (n : Int) : ∃ x : Nat, x < 18446744073709551616 ∧ IntKind.u64.wrap n = (x : Int) := by
  refine ⟨(n % 18446744073709551616).toNat, by omega, ?_⟩
  have : IntKind.u64.wrap n = n % 18446744073709551616 := by rw [IntKind.wrap_u64]
  rw [this]; omega
theorem xor_nat (x y : Nat) (hx : x < 18446744073709551616) (hy : y < 18446744073709551616) : bitV .xor .u64 (x : Int) (y : Int) = ((x ^^^ y : Nat) : Int) ∧ x ^^^ y < 18446744073709551616 := by
  have hz : x ^^^ y < 2 ^ 64 := Nat.xor_lt_two_pow (by omega) (by omega)
  have e : ∀ z : Nat, z < 18446744073709551616 → (BitVec.ofInt 64 (z : Int)).toNat = z := fun z hz => by rw [BitVec.ofInt_natCast, BitVec.toNat_ofNat]; exact Nat.mod_eq_of_lt (by omega)
  refine ⟨?_, by omega⟩
  show IntKind.u64.wrap ((BitVec.ofInt 64 (x : Int) ^^^ BitVec.ofInt 64 (y : Int)).toNat : Int) = _
  rw [BitVec.toNat_xor, e x hx, e y hy, IntKind.wrap_u64]
  omega
theorem and_nat (x y : Nat) (hx : x < 18446744073709551616) (hy : y < 18446744073709551616) : bitV .and .u64 (x : Int) (y : Int) = ((x &&& y : Nat) : Int) := by
  have hz : x &&& y ≤ x := Nat.and_le_left
  have e : ∀ z : Nat, z < 18446744073709551616 → (BitVec.ofInt 64 (z : Int)).toNat = z := fun z hz => by rw [BitVec.ofInt_natCast, BitVec.toNat_ofNat]; exact Nat.mod_eq_of_lt (by omega)
  show IntKind.u64.wrap ((BitVec.ofInt 64 (x : Int) &&& BitVec.ofInt 64 (y : Int)).toNat : Int) = _
  rw [BitVec.toNat_and, e x hx, e y hy, IntKind.wrap_u64]
  omega
end Go.Proofs.YtpaccaojgbfjdaaDoor

