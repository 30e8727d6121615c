/-
  value.Check, both, order, Compare as contracts: what they tell of any value. No condition but the sizes.
-/
import Derived.Test.YtfplkakfakdfhaaDoorZM1
import Derived.Test.YtfplkakfakdfhaaDoorZM2
import Derived.Test.YtfplkakfakdfhaaDoorZC
import Derived.Test.YtfplkakfakdfhaaDoorZB
namespace Go.Proofs.YtfplkakfakdfhaaDoor
set_option linter.unusedSimpArgs false
set_option linter.unusedVariables false
open Go.RowKit

/-- A value. -/
structure Vl where
  k : Int
  n : Int
  b : Nat
  t : ByteArray
abbrev qD (b : Nat) : D := .sc (.int .u64 (b : Int))
def Vl.cs (v : Vl) : List D := [iD v.k, iD v.n, qD v.b, strD v.t]
theorem ext_from : ExtF Tryd.prog 53 Extern.MathFloatBits.float64frombits := ⟨_, Tryd.func53, by kernel_rfl, rfl, by kernel_rfl, by kernel_rfl⟩
theorem ext_bits : ExtF Tryd.prog 60 Extern.MathFloatBits.float64bits := ⟨_, Tryd.func60, by kernel_rfl, rfl, by kernel_rfl, by kernel_rfl⟩
section
variable {dst : Option Nat} {ty : TypeId} {e : Operand → A} {β : Bx}
theorem does_from {b : Nat} {x z : Operand} {ts : Array TypeId} (hx : e x = .fn (.func 53) [] []) (hz : e z = .d (qD b)) : Does Tryd.prog dst (.call { callee := .value x, args := #[z], argTypes := ts }) ty e β (.d (fltD b)) [] [] :=
  does_ext1 (v := .float .f64 b) ext_from hx hz (fun w => rfl) rfl
theorem does_bits {b : Nat} {x z : Operand} {ts : Array TypeId} (hx : e x = .fn (.func 60) [] []) (hz : e z = .d (fltD b)) : Does Tryd.prog dst (.call { callee := .value x, args := #[z], argTypes := ts }) ty e β (.d (qD b)) [] [] :=
  does_ext1 (v := .int .u64 (b : Int)) ext_bits hx hz (fun w => rfl) rfl
end
def sgnB (b : Nat) : Bool := decide (IntKind.i64.wrap (b : Int) < 0)
theorem signbit_pc (b : Nat) : PC Tryd.prog 54 [fltD b] (bD (sgnB b)) := by
  refine pc_of_aw Tryd.func54 rfl (by kernel_rfl) mixed (by kernel_rfl) (by rw [Tryd.ntmps54]; exact Nat.le_of_ble_eq_true rfl) Tryd.results54 ?_
  repeat (first | (with_reducible first | apply aw_seq | apply aw_reg | apply rp_nil | apply ae_norm | apply aw_ret | apply re_ret) | ((with_reducible apply rp); first | (exact does_bits rfl rfl) | (exact does_conv_int (tyOk rfl) (tyOk rfl) rfl rfl) | ((with_reducible apply does_move); (conv => lhs; whnf)) | ((with_reducible apply does_assign); (conv => lhs; whnf)) | ((with_reducible apply does_lt); exact rfl; exact rfl)))
  (with_reducible apply ret_ok); (focus (repeat' (first | (with_reducible apply rv_nil) | (with_reducible apply rv_cons) | ((with_reducible apply rv_tmp); exact rfl)))); exact rfl; refine SubD.of_eq ?_
  rfl
def Vl.b1 (v : Vl) : Bool := decide (v.k < 0) || decide (v.k > 4)
def Vl.b2 (v : Vl) : Bool := decide ((v.t.size : Int) > 40)
def Vl.b3 (v : Vl) : Bool := ((v.k != 4 && !(v.t.toList == (⟨#[]⟩ : ByteArray).toList)) || (v.k != 3 && (v.b : Int) != 0)) || ((v.k != 2 && v.k != 1) && v.n != 0)
def Vl.b4 (v : Vl) : Bool := v.n != 0 && v.n != 1
def Vl.b5 (v : Vl) : Bool := fltV .neq v.b v.b || (fltV .eql v.b 0 && sgnB v.b)
def Vl.b6 (v : Vl) : Bool := !(Lib.validD v.t.data.toList)
/-- What Check tells. -/
def chkV (v : Vl) : Nat := if v.b1 = true then 2 else if v.b2 = true then 1 else if v.b3 = true then 3 else if (v.k == 1) = true then (if v.b4 = true then 3 else 0) else if (v.k == 3) = true then (if v.b5 = true then 3 else 0) else if (v.k == 4) = true then (if v.b6 = true then 3 else 0) else 0
set_option maxHeartbeats 2000000 in
theorem check_pc (v : Vl) (ht : v.t.size ≤ 9223372036854775807) : PC Tryd.prog 41 [.ag v.cs] (iD (chkV v)) := by
  have s1 := signbit_pc v.b
  have u1 := valid_pc v.t ht
  refine pc_of_aw Tryd.func41 rfl (by kernel_rfl) mixed (by kernel_rfl) (by rw [Tryd.ntmps41]; exact Nat.le_of_ble_eq_true rfl) Tryd.results41 ?_
  repeat (first | (with_reducible first | apply aw_seq | apply aw_reg | apply rp_nil | apply ae_norm) | ((first | (with_reducible apply rp) | ((with_reducible apply rpG); exact rfl; exact gval_f rfl; (focus repeat' (first | exact trivial | exact fun h => h | refine And.intro ?_ ?_)); intro hgd; have hgd0 := hgd; (try simp only [decide_eq_true_eq, Bool.and_eq_true, Bool.not_eq_true', beq_iff_eq] at hgd))); first | ((with_reducible apply does_move); (conv => lhs; whnf)) | ((with_reducible apply does_assign); (conv => lhs; whnf)) | ((with_reducible apply does_or); exact rfl; exact rfl; exact rfl; exact fun h => h) | ((with_reducible apply does_fieldAddr); exact tyOk rfl; exact rfl; exact rfl; decide; exact rfl) | ((with_reducible apply does_load_var); exact tyOk rfl; exact rfl; exact rfl; exact rfl; exact rfl) | ((with_reducible apply does_lt); exact rfl; exact rfl) | ((with_reducible apply does_gt); exact rfl; exact rfl)) | ((with_reducible apply rp1); ((with_reducible apply does_box_ag); exact rfl; exact rfl)))
  refine aw_cond rfl (fun h1 => ?_) (fun h1 => ?_)
  · have e : chkV v = 2 := by unfold chkV; rw [if_pos (show v.b1 = true from h1)]
    rw [e]
    repeat (first | (with_reducible first | apply aw_seq | apply aw_reg | apply rp_nil | apply ae_norm | apply aw_ret | apply ae_ret | apply re_ret) | ((with_reducible apply rp); ((with_reducible apply does_assign); (conv => lhs; whnf))))
    (with_reducible apply ret_ok); (focus (repeat' (first | (with_reducible apply rv_nil) | (with_reducible apply rv_cons) | ((with_reducible apply rv_tmp); exact rfl)))); exact rfl; refine SubD.of_eq ?_
    rfl
  have h1 : v.b1 = false := h1
  repeat (first | (with_reducible first | apply aw_seq | apply aw_reg | apply rp_nil | apply ae_norm | apply aw_skip) | ((with_reducible apply rp); first | ((with_reducible apply does_fieldAddr); exact tyOk rfl; exact rfl; exact rfl; decide; exact rfl) | ((with_reducible apply does_load_var); exact tyOk rfl; exact rfl; exact rfl; exact rfl; exact rfl) | ((with_reducible apply does_gt); exact rfl; exact rfl) | ((with_reducible apply does_len_str); exact tyOk rfl; exact rfl; exact rfl)))
  refine aw_cond rfl (fun h2 => ?_) (fun h2 => ?_)
  · have e : chkV v = 1 := by unfold chkV; rw [if_neg (by rw [h1]; decide), if_pos (show v.b2 = true from h2)]
    rw [e]
    repeat (first | (with_reducible first | apply aw_seq | apply aw_reg | apply rp_nil | apply ae_norm | apply aw_ret | apply ae_ret | apply re_ret) | ((with_reducible apply rp); ((with_reducible apply does_assign); (conv => lhs; whnf))))
    (with_reducible apply ret_ok); (focus (repeat' (first | (with_reducible apply rv_nil) | (with_reducible apply rv_cons) | ((with_reducible apply rv_tmp); exact rfl)))); exact rfl; refine SubD.of_eq ?_
    rfl
  have h2 : v.b2 = false := h2
  repeat (first | (with_reducible first | apply aw_seq | apply aw_reg | apply rp_nil | apply ae_norm | apply aw_skip) | ((first | (with_reducible apply rp) | ((with_reducible apply rpG); exact rfl; (first | exact gval_t rfl | exact gval_f rfl | exact gval_gt rfl); (focus repeat' (first | exact trivial | exact fun h => h | refine And.intro ?_ ?_ | (intro h; simp_all))); intro hgd; have hgd0 := hgd; (try simp only [decide_eq_true_eq, Bool.and_eq_true, Bool.not_eq_true', beq_iff_eq] at hgd))); first | ((with_reducible apply does_move); (conv => lhs; whnf)) | ((with_reducible apply does_and); exact rfl; exact rfl; exact rfl; (first | exact fun h => h | (intro h; (rw [hgd0, h]; rfl)))) | ((with_reducible apply does_or); exact rfl; exact rfl; exact rfl; (first | exact fun h => h | (intro h; (rw [hgd0, h]; rfl)))) | ((with_reducible apply does_fieldAddr); exact tyOk rfl; exact rfl; exact rfl; decide; exact rfl) | ((with_reducible apply does_load_var); exact tyOk rfl; exact rfl; exact rfl; exact rfl; exact rfl) | ((with_reducible apply does_ne); exact rfl; exact rfl) | ((with_reducible apply does_sne); exact rfl; exact rfl)) | ((first | (with_reducible apply rpGP) | (with_reducible apply drGP)); exact rfl; (first | exact gval_t rfl | exact gval_f rfl | exact gval_gt rfl); (focus repeat' (first | exact trivial | exact fun h => h | refine And.intro ?_ ?_ | (intro h; simp_all))); (intro hgd; have hgd0 := hgd; (try simp only [decide_eq_true_eq, Bool.and_eq_true, Bool.not_eq_true', beq_iff_eq] at hgd); first | ((with_reducible apply does_or); exact rfl; exact rfl; exact rfl; (first | exact fun h => h | (intro h; (rw [hgd0, h]; rfl)))) | ((with_reducible apply does_and); exact rfl; exact rfl; exact rfl; (first | exact fun h => h | (intro h; (rw [hgd0, h]; rfl)))))))
  refine aw_cond rfl (fun h3 => ?_) (fun h3 => ?_)
  · have e : chkV v = 3 := by unfold chkV; rw [if_neg (by rw [h1]; decide), if_neg (by rw [h2]; decide), if_pos (show v.b3 = true from h3)]
    rw [e]
    repeat (first | (with_reducible first | apply aw_seq | apply aw_reg | apply rp_nil | apply ae_norm | apply aw_ret | apply ae_ret | apply re_ret) | ((with_reducible apply rp); ((with_reducible apply does_assign); (conv => lhs; whnf))))
    (with_reducible apply ret_ok); (focus (repeat' (first | (with_reducible apply rv_nil) | (with_reducible apply rv_cons) | ((with_reducible apply rv_tmp); exact rfl)))); exact rfl; refine SubD.of_eq ?_
    rfl
  have h3 : v.b3 = false := h3
  have e0 : chkV v = if (v.k == 1) = true then (if v.b4 = true then 3 else 0) else if (v.k == 3) = true then (if v.b5 = true then 3 else 0) else if (v.k == 4) = true then (if v.b6 = true then 3 else 0) else 0 := by
    unfold chkV
    rw [if_neg (by rw [h1]; decide), if_neg (by rw [h2]; decide), if_neg (by rw [h3]; decide)]
  rw [e0]
  clear e0 h1 h2 h3
  repeat (first | (with_reducible first | apply aw_seq | apply aw_reg | apply rp_nil | apply ae_norm | apply aw_block | apply aw_skip) | ((with_reducible apply rp); first | ((with_reducible apply does_assign); (conv => lhs; whnf)) | ((with_reducible apply does_fieldAddr); exact tyOk rfl; exact rfl; exact rfl; decide; exact rfl) | ((with_reducible apply does_load_var); exact tyOk rfl; exact rfl; exact rfl; exact rfl; exact rfl) | ((with_reducible apply does_eq); exact rfl; exact rfl)))
  refine aw_cond rfl (fun k1 => ?_) (fun k1 => ?_)
  · rw [if_pos k1]
    repeat (first | (with_reducible first | apply aw_seq | apply aw_reg | apply rp_nil | apply ae_norm) | ((first | (with_reducible apply rp) | ((with_reducible apply rpG); exact rfl; exact gval_t rfl; (focus repeat' (first | exact trivial | exact fun h => h | refine And.intro ?_ ?_)); intro hgd; have hgd0 := hgd; (try simp only [decide_eq_true_eq, Bool.and_eq_true, Bool.not_eq_true', beq_iff_eq] at hgd))); first | ((with_reducible apply does_move); (conv => lhs; whnf)) | ((with_reducible apply does_and); exact rfl; exact rfl; exact rfl; exact fun h => h) | ((with_reducible apply does_fieldAddr); exact tyOk rfl; exact rfl; exact rfl; decide; exact rfl) | ((with_reducible apply does_load_var); exact tyOk rfl; exact rfl; exact rfl; exact rfl; exact rfl) | ((with_reducible apply does_ne); exact rfl; exact rfl)))
    refine aw_cond rfl (fun h4 => ?_) (fun h4 => ?_)
    · rw [if_pos (show v.b4 = true from h4)]
      repeat (first | (with_reducible first | apply aw_seq | apply aw_reg | apply rp_nil | apply ae_norm | apply aw_ret | apply ae_ret | apply be_ret | apply re_ret) | ((with_reducible apply rp); ((with_reducible apply does_assign); (conv => lhs; whnf))))
      (with_reducible apply ret_ok); (focus (repeat' (first | (with_reducible apply rv_nil) | (with_reducible apply rv_cons) | ((with_reducible apply rv_tmp); exact rfl)))); exact rfl; refine SubD.of_eq ?_
      rfl
    · rw [if_neg (show ¬ v.b4 = true from fun h => absurd (h.symm.trans h4) (by decide))]
      repeat (first | (with_reducible first | apply aw_seq | apply aw_reg | apply rp_nil | apply ae_norm | apply be_norm | apply aw_ret | apply re_ret | apply aw_skip) | ((with_reducible apply rp); ((with_reducible apply does_assign); (conv => lhs; whnf))))
      (with_reducible apply ret_ok); (focus (repeat' (first | (with_reducible apply rv_nil) | (with_reducible apply rv_cons) | ((with_reducible apply rv_tmp); exact rfl)))); exact rfl; refine SubD.of_eq ?_
      rfl
  rw [if_neg (by rw [k1]; decide)]
  repeat (first | (with_reducible first | apply aw_seq | apply aw_reg | apply rp_nil | apply ae_norm) | ((with_reducible apply rp); first | ((with_reducible apply does_assign); (conv => lhs; whnf)) | ((with_reducible apply does_eq); exact rfl; exact rfl)))
  refine aw_cond rfl (fun k3 => ?_) (fun k3 => ?_)
  · rw [if_pos k3]
    repeat (first | (with_reducible first | apply aw_seq | apply aw_reg | apply rp_nil | apply ae_norm) | ((first | (with_reducible apply rp) | ((with_reducible apply rpG); exact rfl; (first | exact gval_f rfl | exact gval_gt rfl); (focus repeat' (first | exact trivial | exact fun h => h | refine And.intro ?_ ?_ | (intro h; simp_all))); intro hgd; have hgd0 := hgd; (try simp only [decide_eq_true_eq, Bool.and_eq_true, Bool.not_eq_true', beq_iff_eq] at hgd))); first | (exact does_from rfl rfl) | (exact does_flt rfl rfl (.inr (.inr (.inr rfl)))) | (exact does_flt (b := 0) rfl rfl (.inr (.inr (.inl rfl)))) | ((with_reducible apply does_call_flat); exact rfl; exact rfl; exact (s1); exact rfl) | ((with_reducible apply does_move); (conv => lhs; whnf)) | ((with_reducible apply does_assign); (conv => lhs; whnf)) | ((with_reducible apply does_and); exact rfl; exact rfl; exact rfl; (first | exact fun h => h | (intro h; (rw [hgd0, h]; rfl)))) | ((with_reducible apply does_or); exact rfl; exact rfl; exact rfl; (first | exact fun h => h | (intro h; (rw [hgd0, h]; rfl)))) | ((with_reducible apply does_fieldAddr); exact tyOk rfl; exact rfl; exact rfl; decide; exact rfl) | ((with_reducible apply does_load_var); exact tyOk rfl; exact rfl; exact rfl; exact rfl; exact rfl)) | ((first | (with_reducible apply rpGP) | (with_reducible apply drGP)); exact rfl; (first | exact gval_f rfl | exact gval_gt rfl); (focus repeat' (first | exact trivial | exact fun h => h | refine And.intro ?_ ?_ | (intro h; simp_all))); (intro hgd; have hgd0 := hgd; (try simp only [decide_eq_true_eq, Bool.and_eq_true, Bool.not_eq_true', beq_iff_eq] at hgd); first | ((with_reducible apply does_or); exact rfl; exact rfl; exact rfl; (first | exact fun h => h | (intro h; (rw [hgd0, h]; rfl)))) | ((with_reducible apply does_and); exact rfl; exact rfl; exact rfl; (first | exact fun h => h | (intro h; (rw [hgd0, h]; rfl)))))))
    refine aw_cond rfl (fun h4 => ?_) (fun h4 => ?_)
    · rw [if_pos (show v.b5 = true from h4)]
      repeat (first | (with_reducible first | apply aw_seq | apply aw_reg | apply rp_nil | apply ae_norm | apply aw_ret | apply ae_ret | apply be_ret | apply re_ret) | ((with_reducible apply rp); ((with_reducible apply does_assign); (conv => lhs; whnf))))
      (with_reducible apply ret_ok); (focus (repeat' (first | (with_reducible apply rv_nil) | (with_reducible apply rv_cons) | ((with_reducible apply rv_tmp); exact rfl)))); exact rfl; refine SubD.of_eq ?_
      rfl
    · rw [if_neg (show ¬ v.b5 = true from fun h => absurd (h.symm.trans h4) (by decide))]
      repeat (first | (with_reducible first | apply aw_seq | apply aw_reg | apply rp_nil | apply ae_norm | apply be_norm | apply aw_ret | apply re_ret | apply aw_skip) | ((with_reducible apply rp); ((with_reducible apply does_assign); (conv => lhs; whnf))))
      (with_reducible apply ret_ok); (focus (repeat' (first | (with_reducible apply rv_nil) | (with_reducible apply rv_cons) | ((with_reducible apply rv_tmp); exact rfl)))); exact rfl; refine SubD.of_eq ?_
      rfl
  rw [if_neg (by rw [k3]; decide)]
  repeat (first | (with_reducible first | apply aw_seq | apply aw_reg | apply rp_nil | apply ae_norm) | ((with_reducible apply rp); first | ((with_reducible apply does_assign); (conv => lhs; whnf)) | ((with_reducible apply does_eq); exact rfl; exact rfl)))
  refine aw_cond rfl (fun k4 => ?_) (fun k4 => ?_)
  · rw [if_pos k4]
    repeat (first | (with_reducible first | apply aw_seq | apply aw_reg | apply rp_nil | apply ae_norm) | ((with_reducible apply rp); first | ((with_reducible apply does_call_flat); exact rfl; exact rfl; exact (u1); exact rfl) | ((with_reducible apply does_fieldAddr); exact tyOk rfl; exact rfl; exact rfl; decide; exact rfl) | ((with_reducible apply does_load_var); exact tyOk rfl; exact rfl; exact rfl; exact rfl; exact rfl) | ((with_reducible apply does_not); exact rfl)))
    refine aw_cond rfl (fun h4 => ?_) (fun h4 => ?_)
    · rw [if_pos (show v.b6 = true from h4)]
      repeat (first | (with_reducible first | apply aw_seq | apply aw_reg | apply rp_nil | apply ae_norm | apply aw_ret | apply ae_ret | apply be_ret | apply re_ret) | ((with_reducible apply rp); ((with_reducible apply does_assign); (conv => lhs; whnf))))
      (with_reducible apply ret_ok); (focus (repeat' (first | (with_reducible apply rv_nil) | (with_reducible apply rv_cons) | ((with_reducible apply rv_tmp); exact rfl)))); exact rfl; refine SubD.of_eq ?_
      rfl
    · rw [if_neg (show ¬ v.b6 = true from fun h => absurd (h.symm.trans h4) (by decide))]
      repeat (first | (with_reducible first | apply aw_seq | apply aw_reg | apply rp_nil | apply ae_norm | apply be_norm | apply aw_ret | apply re_ret | apply aw_skip) | ((with_reducible apply rp); ((with_reducible apply does_assign); (conv => lhs; whnf))))
      (with_reducible apply ret_ok); (focus (repeat' (first | (with_reducible apply rv_nil) | (with_reducible apply rv_cons) | ((with_reducible apply rv_tmp); exact rfl)))); exact rfl; refine SubD.of_eq ?_
      rfl
  rw [if_neg (by rw [k4]; decide)]
  repeat (first | (with_reducible first | apply aw_seq | apply aw_reg | apply rp_nil | apply ae_norm | apply be_norm | apply aw_ret | apply re_ret | apply aw_skip) | ((with_reducible apply rp); ((with_reducible apply does_assign); (conv => lhs; whnf))))
  (with_reducible apply ret_ok); (focus (repeat' (first | (with_reducible apply rv_nil) | (with_reducible apply rv_cons) | ((with_reducible apply rv_tmp); exact rfl)))); exact rfl; refine SubD.of_eq ?_
  rfl
end Go.Proofs.YtfplkakfakdfhaaDoor


/-
  The order of two values; bits of 64: xor and and. No program in sight.
-/
namespace Go.Proofs.YtfplkakfakdfhaaDoor
set_option linter.unusedSimpArgs false
set_option linter.unusedVariables false
open Go.RowKit

def lessV (a b : Vl) : Bool := if (a.k != b.k) = true then decide (a.k < b.k) else if (a.k == 3) = true then fltV .lss a.b b.b else if (a.k == 4) = true then Op.bytesLess a.t.toList b.t.toList else decide (a.n < b.n)
def moreV (a b : Vl) : Bool := if (a.k != b.k) = true then decide (a.k > b.k) else if (a.k == 3) = true then fltV .gtr a.b b.b else if (a.k == 4) = true then !(Op.bytesLess a.t.toList b.t.toList || a.t.toList == b.t.toList) else decide (a.n > b.n)
def ordV (a b : Vl) : Int := if lessV a b = true then -1 else if moreV a b = true then 1 else 0
/-! ### reals -/
theorem u64_nat (n : Int) : ∃ x : Nat, x < 18446744073709551616 ∧ IntKind.u64.wrap n = (x : Int) := by
  refine ⟨(n % 18446744073709551616).toNat, by omega, ?_⟩
  have : IntKind.u64.wrap n = n % 18446744073709551616 := by rw [IntKind.wrap_u64]
  rw [this]; omega
theorem xor_nat (x y : Nat) (hx : x < 18446744073709551616) (hy : y < 18446744073709551616) : bitV .xor .u64 (x : Int) (y : Int) = ((x ^^^ y : Nat) : Int) ∧ x ^^^ y < 18446744073709551616 := by
  have hz : x ^^^ y < 2 ^ 64 := Nat.xor_lt_two_pow (by omega) (by omega)
  have e : ∀ z : Nat, z < 18446744073709551616 → (BitVec.ofInt 64 (z : Int)).toNat = z := fun z hz => by rw [BitVec.ofInt_natCast, BitVec.toNat_ofNat]; exact Nat.mod_eq_of_lt (by omega)
  refine ⟨?_, by omega⟩
  show IntKind.u64.wrap ((BitVec.ofInt 64 (x : Int) ^^^ BitVec.ofInt 64 (y : Int)).toNat : Int) = _
  rw [BitVec.toNat_xor, e x hx, e y hy, IntKind.wrap_u64]
  omega
theorem and_nat (x y : Nat) (hx : x < 18446744073709551616) (hy : y < 18446744073709551616) : bitV .and .u64 (x : Int) (y : Int) = ((x &&& y : Nat) : Int) := by
  have hz : x &&& y ≤ x := Nat.and_le_left
  have e : ∀ z : Nat, z < 18446744073709551616 → (BitVec.ofInt 64 (z : Int)).toNat = z := fun z hz => by rw [BitVec.ofInt_natCast, BitVec.toNat_ofNat]; exact Nat.mod_eq_of_lt (by omega)
  show IntKind.u64.wrap ((BitVec.ofInt 64 (x : Int) &&& BitVec.ofInt 64 (y : Int)).toNat : Int) = _
  rw [BitVec.toNat_and, e x hx, e y hy, IntKind.wrap_u64]
  omega
end Go.Proofs.YtfplkakfakdfhaaDoor


/-
  Values that may be, and their order. Plain laws.
-/
namespace Go.Proofs.YtfplkakfakdfhaaDoor
set_option linter.unusedSimpArgs false
set_option linter.unusedVariables false

/-- A value that may be, of numbers that are. -/
inductive Gd : Vl → Prop where
  | null : Gd ⟨0, 0, 0, .empty⟩
  | bool (n : Int) (h : n = 0 ∨ n = 1) : Gd ⟨1, n, 0, .empty⟩
  | int (n : Int) : Gd ⟨2, n, 0, .empty⟩
  | real (b : Nat) (h1 : b < 18446744073709551616) (h2 : finF b) (h3 : b ≠ 9223372036854775808) : Gd ⟨3, 0, b, .empty⟩
  | text (t : ByteArray) (h1 : t.size ≤ 40) (h2 : Lib.validD t.data.toList = true) : Gd ⟨4, 0, 0, t⟩
theorem Gd.size {v : Vl} (h : Gd v) : v.t.size ≤ 40 := by
  cases h with
  | text t h1 h2 => exact h1
  | _ => exact Nat.zero_le _
theorem emp_eq : (ByteArray.empty.toList == (⟨#[]⟩ : ByteArray).toList) = true := beq_self_eq_true _
theorem fltV_eql {a b : Nat} (ha : finF a) (hb : finF b) : fltV .eql a b = decide (keyF a = keyF b) := by
  unfold fltV
  rw [order_key ha hb]
  rcases Int.lt_trichotomy (keyF a) (keyF b) with h | h | h
  · simp [compare, compareOfLessAndEq, h, show ¬ keyF a = keyF b by omega]
  · simp [compare, compareOfLessAndEq, h]
  · simp [compare, compareOfLessAndEq, show ¬ keyF a < keyF b by omega, show ¬ keyF a = keyF b by omega]
theorem Gd.chk {v : Vl} (h : Gd v) : chkV v = 0 := by
  cases h with
  | null =>
    have e3 : Vl.b3 ⟨0, 0, 0, .empty⟩ = false := by unfold Vl.b3; simp [emp_eq]
    unfold chkV
    rw [if_neg (by decide), if_neg (by decide), if_neg (by rw [e3]; decide), if_neg (by decide), if_neg (by decide), if_neg (by decide)]
  | bool n hn =>
    have e3 : Vl.b3 ⟨1, n, 0, .empty⟩ = false := by unfold Vl.b3; simp [emp_eq]
    have e4 : Vl.b4 ⟨1, n, 0, .empty⟩ = false := by unfold Vl.b4; rcases hn with rfl | rfl <;> rfl
    unfold chkV
    rw [if_neg (by unfold Vl.b1; simp), if_neg (by unfold Vl.b2; simp), if_neg (by rw [e3]; decide), if_pos (by rfl), if_neg (by rw [e4]; decide)]
  | int n =>
    have e3 : Vl.b3 ⟨2, n, 0, .empty⟩ = false := by unfold Vl.b3; simp [emp_eq]
    unfold chkV
    rw [if_neg (by unfold Vl.b1; simp), if_neg (by unfold Vl.b2; simp), if_neg (by rw [e3]; decide), if_neg (by simp), if_neg (by simp), if_neg (by simp)]
  | real b h1 h2 h3 =>
    have e3 : Vl.b3 ⟨3, 0, b, .empty⟩ = false := by unfold Vl.b3; simp [emp_eq]
    have e5 : Vl.b5 ⟨3, 0, b, .empty⟩ = false := by
      unfold Vl.b5
      dsimp only
      rw [fltV_self h2, Bool.false_or]
      cases he : fltV .eql b 0 with
      | false => rfl
      | true =>
        rw [fltV_eql h2 (by unfold finF rung; omega)] at he
        have := keyF_inj (b := 0) h1 (by omega) h3 (by omega) (of_decide_eq_true he)
        subst this
        rfl
    unfold chkV
    rw [if_neg (by unfold Vl.b1; simp), if_neg (by unfold Vl.b2; simp), if_neg (by rw [e3]; decide), if_neg (by simp), if_pos (by rfl), if_neg (by rw [e5]; decide)]
  | text t h1 h2 =>
    have e3 : Vl.b3 ⟨4, 0, 0, t⟩ = false := by unfold Vl.b3; simp
    have e6 : Vl.b6 ⟨4, 0, 0, t⟩ = false := by unfold Vl.b6; rw [h2]; rfl
    unfold chkV
    rw [if_neg (by unfold Vl.b1; simp), if_neg (by unfold Vl.b2; simp; omega), if_neg (by rw [e3]; decide), if_neg (by simp), if_neg (by simp), if_pos (by rfl), if_neg (by rw [e6]; decide)]
theorem bl_irr : ∀ x : List UInt8, Op.bytesLess x x = false
  | [] => rfl
  | a :: x => by simp [Op.bytesLess, bl_irr x]
theorem bl_tri : ∀ x y : List UInt8, Op.bytesLess x y = false → Op.bytesLess y x = false → x = y
  | [], [], _, _ => rfl
  | [], b :: y, h, _ => by simp [Op.bytesLess] at h
  | a :: x, [], _, h => by simp [Op.bytesLess] at h
  | a :: x, b :: y, h1, h2 => by
    simp only [Op.bytesLess, Bool.or_eq_false_iff, decide_eq_false_iff_not, Bool.and_eq_false_iff, beq_eq_false_iff_ne] at h1 h2
    have hab : a = b := by
      apply UInt8.toNat_inj.1
      have e1 := h1.1
      have e2 := h2.1
      rw [UInt8.lt_iff_toNat_lt] at e1 e2
      omega
    subst hab
    rw [bl_tri x y (by rcases h1.2 with h | h; exact absurd rfl h; exact h) (by rcases h2.2 with h | h; exact absurd rfl h; exact h)]
theorem bl_trans : ∀ x y z : List UInt8, Op.bytesLess x y = true → Op.bytesLess y z = true → Op.bytesLess x z = true
  | _, [], _, h, _ => by simp [Op.bytesLess] at h
  | _, b :: y, [], _, h => by simp [Op.bytesLess] at h
  | [], b :: y, c :: z, _, _ => rfl
  | a :: x, b :: y, c :: z, h1, h2 => by
    simp only [Op.bytesLess, Bool.or_eq_true, decide_eq_true_eq, Bool.and_eq_true, beq_iff_eq] at h1 h2 ⊢
    rcases h1 with h1 | ⟨rfl, h1⟩
    · rcases h2 with h2 | ⟨rfl, h2⟩
      · left
        rw [UInt8.lt_iff_toNat_lt] at *
        omega
      · exact .inl h1
    · rcases h2 with h2 | ⟨rfl, h2⟩
      · exact .inl h2
      · exact .inr ⟨rfl, bl_trans x y z h1 h2⟩
/-- What decides within a kind. -/
def inn (a b : Vl) : Prop := if a.k = 3 then keyF a.b < keyF b.b else if a.k = 4 then Op.bytesLess a.t.toList b.t.toList = true else a.n < b.n
theorem Gd.fin {v : Vl} (h : Gd v) (hk : v.k = 3) : v.b < 18446744073709551616 ∧ finF v.b ∧ v.b ≠ 9223372036854775808 := by
  cases h with
  | real b h1 h2 h3 => exact ⟨h1, h2, h3⟩
  | null => cases hk
  | bool n h => have hk : (1 : Int) = 3 := hk; omega
  | int n => have hk : (2 : Int) = 3 := hk; omega
  | text t h1 h2 => have hk : (4 : Int) = 3 := hk; omega
theorem less_k {a b : Vl} (hk : a.k ≠ b.k) : lessV a b = decide (a.k < b.k) := by unfold lessV; rw [if_pos (bne_iff_ne.2 hk)]
theorem less_3 {a b : Vl} (hk : a.k = b.k) (h : a.k = 3) : lessV a b = fltV .lss a.b b.b := by unfold lessV; rw [if_neg (by simp [hk]), if_pos (beq_iff_eq.2 h)]
theorem less_4 {a b : Vl} (hk : a.k = b.k) (h : a.k = 4) : lessV a b = Op.bytesLess a.t.toList b.t.toList := by unfold lessV; rw [if_neg (by simp [hk]), if_neg (by rw [h]; decide), if_pos (beq_iff_eq.2 h)]
theorem less_n {a b : Vl} (hk : a.k = b.k) (h : a.k ≠ 3) (h2 : a.k ≠ 4) : lessV a b = decide (a.n < b.n) := by unfold lessV; rw [if_neg (by simp [hk]), if_neg (fun x => h (beq_iff_eq.1 x)), if_neg (fun x => h2 (beq_iff_eq.1 x))]
theorem more_k {a b : Vl} (hk : a.k ≠ b.k) : moreV a b = decide (a.k > b.k) := by unfold moreV; rw [if_pos (bne_iff_ne.2 hk)]
theorem more_3 {a b : Vl} (hk : a.k = b.k) (h : a.k = 3) : moreV a b = fltV .gtr a.b b.b := by unfold moreV; rw [if_neg (by simp [hk]), if_pos (beq_iff_eq.2 h)]
theorem more_4 {a b : Vl} (hk : a.k = b.k) (h : a.k = 4) : moreV a b = !(Op.bytesLess a.t.toList b.t.toList || a.t.toList == b.t.toList) := by unfold moreV; rw [if_neg (by simp [hk]), if_neg (by rw [h]; decide), if_pos (beq_iff_eq.2 h)]
theorem more_n {a b : Vl} (hk : a.k = b.k) (h : a.k ≠ 3) (h2 : a.k ≠ 4) : moreV a b = decide (a.n > b.n) := by unfold moreV; rw [if_neg (by simp [hk]), if_neg (fun x => h (beq_iff_eq.1 x)), if_neg (fun x => h2 (beq_iff_eq.1 x))]
theorem less_iff {a b : Vl} (ha : Gd a) (hb : Gd b) : lessV a b = true ↔ a.k < b.k ∨ (a.k = b.k ∧ inn a b) := by
  by_cases hk : a.k = b.k
  · have hin : inn a b ↔ lessV a b = true := by
      unfold inn
      by_cases h3 : a.k = 3
      · rw [if_pos h3, less_3 hk h3, fltV_lss (ha.fin h3).2.1 (hb.fin (hk ▸ h3)).2.1, decide_eq_true_eq]
      · rw [if_neg h3]
        by_cases h4 : a.k = 4
        · rw [if_pos h4, less_4 hk h4]
        · rw [if_neg h4, less_n hk h3 h4, decide_eq_true_eq]
    rw [hin]
    constructor
    · exact fun h => .inr ⟨hk, h⟩
    · rintro (h | h)
      · omega
      · exact h.2
  · rw [less_k hk, decide_eq_true_eq]
    constructor
    · exact .inl
    · rintro (h | h)
      · exact h
      · exact absurd h.1 hk
theorem more_less {a b : Vl} (ha : Gd a) (hb : Gd b) : moreV a b = lessV b a := by
  by_cases hk : a.k = b.k
  · by_cases h3 : a.k = 3
    · have h3b : b.k = 3 := hk ▸ h3
      rw [more_3 hk h3, less_3 hk.symm h3b, fltV_gtr (ha.fin h3).2.1 (hb.fin h3b).2.1, fltV_lss (hb.fin h3b).2.1 (ha.fin h3).2.1]
    · by_cases h4 : a.k = 4
      · rw [more_4 hk h4, less_4 hk.symm (hk ▸ h4), Bool.eq_iff_iff]
        generalize a.t.toList = x
        generalize b.t.toList = y
        constructor
        · intro h
          simp only [Bool.not_eq_true', Bool.or_eq_false_iff, beq_eq_false_iff_ne] at h
          cases hq : Op.bytesLess y x with
          | true => rfl
          | false => exact absurd (bl_tri x y h.1 hq) h.2
        · intro h
          simp only [Bool.not_eq_true', Bool.or_eq_false_iff, beq_eq_false_iff_ne]
          refine ⟨?_, fun he => ?_⟩
          · cases hq : Op.bytesLess x y with
            | false => rfl
            | true => have := bl_trans x y x hq h; rw [bl_irr] at this; cases this
          · subst he; rw [bl_irr] at h; cases h
      · rw [more_n hk h3 h4, less_n hk.symm (hk ▸ h3) (hk ▸ h4)]
  · rw [more_k hk, less_k (Ne.symm hk)]
theorem inn_trans {a b c : Vl} (h1 : a.k = b.k) (h2 : inn a b) (h3 : inn b c) : inn a c := by
  unfold inn at *
  rw [← h1] at h3
  by_cases k3 : a.k = 3
  · simp only [if_pos k3] at h2 h3 ⊢; omega
  · simp only [if_neg k3] at h2 h3 ⊢
    by_cases k4 : a.k = 4
    · simp only [if_pos k4] at h2 h3 ⊢; exact bl_trans _ _ _ h2 h3
    · simp only [if_neg k4] at h2 h3 ⊢; omega
theorem inn_irr (a : Vl) : ¬ inn a a := by
  unfold inn
  split
  · omega
  · split
    · rw [bl_irr]; decide
    · omega
theorem less_trans {a b c : Vl} (ha : Gd a) (hb : Gd b) (hc : Gd c) (h1 : lessV a b = true) (h2 : lessV b c = true) : lessV a c = true := by
  rw [less_iff ha hb] at h1
  rw [less_iff hb hc] at h2
  rw [less_iff ha hc]
  rcases h1 with h1 | ⟨e1, h1⟩ <;> rcases h2 with h2 | ⟨e2, h2⟩
  · exact .inl (by omega)
  · exact .inl (by omega)
  · exact .inl (by omega)
  · exact .inr ⟨by omega, inn_trans e1 h1 h2⟩
theorem less_irr {a : Vl} (ha : Gd a) : lessV a a = false := by
  cases h : lessV a a with
  | false => rfl
  | true =>
    rcases (less_iff ha ha).1 h with h | h
    · omega
    · exact absurd h.2 (inn_irr a)
theorem ba_eq {x y : ByteArray} (h : x.toList = y.toList) : x = y := by
  have e : ∀ z : ByteArray, z.toList = z.data.toList := fun z => ByteArray.toList_eq z
  rw [e, e] at h
  exact ByteArray.ext (Array.toList_inj.1 h)
theorem less_tri {a b : Vl} (ha : Gd a) (hb : Gd b) (h1 : lessV a b = false) (h2 : lessV b a = false) : a = b := by
  have q1 : ¬ (a.k < b.k ∨ (a.k = b.k ∧ inn a b)) := fun h => by rw [(less_iff ha hb).2 h] at h1; cases h1
  have q2 : ¬ (b.k < a.k ∨ (b.k = a.k ∧ inn b a)) := fun h => by rw [(less_iff hb ha).2 h] at h2; cases h2
  have hk : a.k = b.k := by omega
  have i1 : ¬ inn a b := fun h => q1 (.inr ⟨hk, h⟩)
  have i2 : ¬ inn b a := fun h => q2 (.inr ⟨hk.symm, h⟩)
  have j1 : inn a b = if a.k = 3 then keyF a.b < keyF b.b else if a.k = 4 then Op.bytesLess a.t.toList b.t.toList = true else a.n < b.n := rfl
  have j2 : inn b a = if b.k = 3 then keyF b.b < keyF a.b else if b.k = 4 then Op.bytesLess b.t.toList a.t.toList = true else b.n < a.n := rfl
  rw [j1] at i1
  rw [j2, ← hk] at i2
  by_cases k3 : a.k = 3
  · simp only [if_pos k3] at i1 i2
    obtain ⟨x1, x2, x3⟩ := ha.fin k3
    obtain ⟨y1, y2, y3⟩ := hb.fin (hk ▸ k3)
    have e := keyF_inj x1 y1 x3 y3 (by omega)
    have fa : a = ⟨3, 0, a.b, .empty⟩ := by
      cases ha with
      | real b h1 h2 h3 => rfl
      | null => cases k3
      | bool n h => have k3 : (1 : Int) = 3 := k3; omega
      | int n => have k3 : (2 : Int) = 3 := k3; omega
      | text t h1 h2 => have k3 : (4 : Int) = 3 := k3; omega
    have k3b : b.k = 3 := hk ▸ k3
    have fb : b = ⟨3, 0, b.b, .empty⟩ := by
      cases hb with
      | real b h1 h2 h3 => rfl
      | null => cases k3b
      | bool n h => have k3 : (1 : Int) = 3 := k3b; omega
      | int n => have k3 : (2 : Int) = 3 := k3b; omega
      | text t h1 h2 => have k3 : (4 : Int) = 3 := k3b; omega
    rw [fa, fb, e]
  · simp only [if_neg k3] at i1 i2
    by_cases k4 : a.k = 4
    · simp only [if_pos k4] at i1 i2
      have e := ba_eq (bl_tri _ _ (by simpa using i1) (by simpa using i2))
      have fa : a = ⟨4, 0, 0, a.t⟩ := by
        cases ha with
        | text t h1 h2 => rfl
        | null => cases k4
        | bool n h => have k3 : (1 : Int) = 4 := k4; omega
        | int n => have k3 : (2 : Int) = 4 := k4; omega
        | real b h1 h2 h3 => have k3 : (3 : Int) = 4 := k4; omega
      have k4b : b.k = 4 := hk ▸ k4
      have fb : b = ⟨4, 0, 0, b.t⟩ := by
        cases hb with
        | text t h1 h2 => rfl
        | null => cases k4b
        | bool n h => have k3 : (1 : Int) = 4 := k4b; omega
        | int n => have k3 : (2 : Int) = 4 := k4b; omega
        | real b h1 h2 h3 => have k3 : (3 : Int) = 4 := k4b; omega
      rw [fa, fb, e]
    · simp only [if_neg k4] at i1 i2
      have e : a.n = b.n := by omega
      have f : ∀ v : Vl, Gd v → v.k ≠ 3 → v.k ≠ 4 → v = ⟨v.k, v.n, 0, .empty⟩ := fun v h q3 q4 => by
        cases h with
        | real b h1 h2 h3 => exact absurd rfl q3
        | text t h1 h2 => exact absurd rfl q4
        | _ => rfl
      rw [f a ha k3 k4, f b hb (hk ▸ k3) (hk ▸ k4), e, hk]
end Go.Proofs.YtfplkakfakdfhaaDoor

